/- An engine for walking translated code: frames as functions, one rule an operation. Nothing of the program stands here. -/
import Derived.WalkKit
import Derived.Below
import Derived.KernelRfl
import Derived.Laws.StructEq
namespace Go.Proofs.YtmcdgepfhpakiaaGreat
set_option linter.unusedSimpArgs false
set_option linter.unusedVariables false
open Go

/-- A frame, as a function from slots to values. -/
abbrev Fr := Nat → Value
def ev (g : Fr) : Operand → Value
  | .tmp t => g t
  | .const v => v
  | .global n => .pointer (some ⟨n, 0, none⟩)
  | .func f => .func (.func f) #[] #[]
def up (g : Fr) (d : Nat) (v : Value) : Fr := fun t => if t = d then v else g t
def upo (g : Fr) (d : Option Nat) (v : Value) : Fr := match d with
  | some d => up g d v
  | none => g
def initF : List Value → Fr
  | [], _ => undef
  | v :: _, 0 => v
  | _ :: l, t + 1 => initF l t

/-- The frame of the machine and the function agree. -/
def Agr (n : Nat) (a : Act) (g : Fr) : Prop := a.defers = [] ∧ a.tmps.size = n ∧ ∀ t, a.tmps.getD t undef = g t

theorem Agr.eval {n : Nat} {a : Act} {g : Fr} (h : Agr n a g) : a.eval = ev g := by
  funext x
  cases x with
  | tmp t => exact h.2.2 t
  | _ => rfl
theorem Agr.put {n : Nat} {a : Act} {g : Fr} (h : Agr n a g) (d : Option Nat) (v : Value) (hd : ∀ k, d = some k → k < n) : Agr n (a.put d v) (upo g d v) := by
  cases d with
  | none => exact h
  | some k =>
    obtain ⟨h1, h2, h3⟩ := h
    have hk : k < a.tmps.size := h2 ▸ hd k rfl
    refine ⟨h1, by simp [Act.put, h2], fun t => ?_⟩
    have := h3 t
    simp only [Act.put, upo, up]
    by_cases e : t = k
    · subst e; simp [hk]
    · rw [if_neg e, ← this]
      simp [Array.getElem?_setIfInBounds_ne (Ne.symm e)]

/-- A call that returns. -/
def CallsV (P : Program) (f : FuncId) (args : Array Value) (w : World) (R : Value → World → Prop) : Prop :=
  Calls P f args w fun e w' => ∃ v, e = .returned v ∧ R v w'
theorem CallsV.mono {P : Program} {f : FuncId} {args : Array Value} {w : World} {R R' : Value → World → Prop} (h : CallsV P f args w R) (hr : ∀ v w', R v w' → R' v w') : CallsV P f args w R' :=
  Calls.mono h fun _ _ ⟨v, he, hv⟩ => ⟨v, he, hr v _ hv⟩

def boolOf : Value → Option Bool
  | .bool b => some b
  | _ => none

/-- One operation, without its guard. -/
def wp1 (P : Program) (o : Oper) (g : Fr) (w : World) (k : Value → World → Prop) : Prop :=
  match (execOp (ev g) o).run P w with
  | .ok (.value v) w' => k v w'
  | .ok .skip w' => k undef w'
  | .ok (.enter f args) w' => CallsV P f args w' k
  | _ => False
theorem wp1_mono {P : Program} {o : Oper} {g : Fr} {w : World} {k k' : Value → World → Prop} (h : wp1 P o g w k) (hk : ∀ v w', k v w' → k' v w') : wp1 P o g w k' := by
  unfold wp1 at *
  split at h
  · exact hk _ _ h
  · exact hk _ _ h
  · exact h.mono hk
  · exact h.elim


/-- The operation's program, run where it stands. -/
def runsV (P : Program) (s : Sem Value) (w : World) (f : Value → World → Prop) : Prop := match s.run P w with
  | .ok v w' => f v w'
  | _ => False
theorem wp1_run {P : Program} {o : Oper} {g : Fr} {w : World} {k : Value → World → Prop} {s : Sem Value} (h : execOp (ev g) o = (do let v ← s; pure (.value v))) (hr : runsV P s w k) : wp1 P o g w k := by
  unfold wp1
  unfold runsV at hr
  rw [h]
  simp only [Sem.run_bind, Sem.run_pure]
  cases hs : s.run P w with
  | ok v w' => rw [hs] at hr; exact hr
  | halt x w' => rw [hs] at hr; exact hr.elim
theorem runsV_ok {P : Program} {s : Sem Value} {w w' : World} {v : Value} {f : Value → World → Prop} (h : s.run P w = .ok v w') (hf : f v w') : runsV P s w f := by
  unfold runsV; rw [h]; exact hf

/-- A value that is reckoned before what follows is looked at; a fork; a need. -/
def bindV (v : Value) (w : World) (f : Value → World → Prop) : Prop := f v w
def forkX (c : Bool) (w : World) (A B : World → Prop) : Prop := (c = true → A w) ∧ (c = false → B w)
def needX (c : Prop) (w : World) (A : World → Prop) : Prop := c ∧ A w

/- what the types' table says -/
def fldOf (P : Program) (s : TypeId) (i : Nat) : Option Nat := match P.underlying s with
  | some (.struct fs) => match fs[i]? with
    | some f => match P.info? f.type with
      | some ti => if ti.size = 0 then none else some f.offset
      | none => none
    | none => none
  | _ => none
/-- An array type: its length, its element's cells. -/
def arrOf (P : Program) (t : TypeId) : Option (Nat × Nat) := match P.underlying t with
  | some (.array n e) => (P.info? e).map fun i => (n, i.size)
  | _ => none
/-- A slice type: its element's type, cells and bytes. -/
def slOf (P : Program) (t : TypeId) : Option (Nat × Nat × Nat) := match P.underlying t with
  | some (.slice e) => (P.info? e).map fun i => (e, i.size, i.bytes)
  | _ => none
/-- none: one cell; some n: a struct or an array of n cells. -/
def tyK (P : Program) (t : TypeId) : Option (Option Nat) := match P.underlying t with
  | some (.struct _) => (P.info? t).map fun i => some i.size
  | some (.array ..) => (P.info? t).map fun i => some i.size
  | some _ => match P.info? t with
    | some i => if i.size = 1 then some none else none
    | none => none
  | none => none
def zeroOf (P : Program) (t : TypeId) : Option Value := (P.info? t).bind (·.zero)
/-- The zero value of a slice type's element. -/
def zeroElt (P : Program) (t : TypeId) : Option Value := match slOf P t with
  | some (e, _, _) => zeroOf P e
  | none => none
def isBoolT (P : Program) (t : TypeId) : Bool := match P.underlying t with
  | some .bool => true
  | _ => false
def intOfT (P : Program) (t : TypeId) : Option IntKind := match P.underlying t with
  | some (.int k) => some k
  | _ => none
/-- The places of a struct's fields, and the cells of its zero value. -/
def bldOf (P : Program) (t : TypeId) : Option (List (Nat × Nat) × List Value) := match P.underlying t, zeroOf P t with
  | some (.struct fs), some z => (fs.toList.mapM fun f => (P.info? f.type).map fun i => (f.offset, i.size)).map fun pl => (pl, z.cells.toList)
  | _, _ => none
def callable (P : Program) (n : Nat) : Bool := match P.funcs[n]? with
  | some fn => !(fn.name == "runtime.NumGoroutine") && !fn.body.isNone
  | none => false

/-- The kinds of a struct's fields, where each is one cell: some k: an integer; none: a bool. -/
def eqKs (P : Program) (t : TypeId) : Option (List (Option IntKind)) := match P.underlying t with
  | some (.struct fs) => if P.stoodInHeld t || P.eqGuardType P.depth t then none else fs.toList.zipIdx.mapM fun p => if p.1.name == "_" || p.1.offset != p.2 then none else match P.underlying p.1.type with
    | some (.int k) => some (some k)
    | some .bool => some none
    | _ => none
  | _ => none
def fitsK : List (Option IntKind) → List Value → Prop
  | [], [] => True
  | some k :: r, .int k' _ :: s => k' = k ∧ fitsK r s
  | none :: r, .bool _ :: s => fitsK r s
  | _, _ => False
def eqL : List Value → List Value → Bool
  | .int _ a :: r, .int _ b :: s => (a == b) && eqL r s
  | .bool a :: r, .bool b :: s => (a == b) && eqL r s
  | _, _ => true
def nilB : Value → Bool
  | .slice none _ _ => true
  | _ => false
/- values -/
def lenN : Value → Nat
  | .slice _ n _ => n
  | _ => 0
def isSl : Value → Prop
  | .slice _ _ _ => True
  | _ => False
def SlWf : Value → Prop
  | .slice none n _ => n = 0
  | .slice (some _) _ _ => True
  | _ => False
def elemAt (v : Value) (sz i : Nat) : Value := match v with
  | .slice (some a) _ _ => .pointer (some (a.add (i * sz)))
  | _ => undef
def andI (k : IntKind) (a b : Int) : Int := k.wrap ((BitVec.ofInt k.bits a &&& BitVec.ofInt k.bits b).toNat : Int)
def orI (k : IntKind) (a b : Int) : Int := k.wrap ((BitVec.ofInt k.bits a ||| BitVec.ofInt k.bits b).toNat : Int)
def xorI (k : IntKind) (a b : Int) : Int := k.wrap ((BitVec.ofInt k.bits a ^^^ BitVec.ofInt k.bits b).toNat : Int)
def andNotI (k : IntKind) (a b : Int) : Int := k.wrap ((BitVec.ofInt k.bits a &&& ~~~BitVec.ofInt k.bits b).toNat : Int)
def shlI (k : IntKind) (a b : Int) : Int := k.wrap (a * 2 ^ (min b.toNat k.bits))
def shrI (k : IntKind) (a b : Int) : Int := a.fdiv (2 ^ (min b.toNat k.bits))

/- reading -/
def rdN (w : World) (a : Addr) : Nat → Nat → Option (List Value)
  | _, 0 => some []
  | i, n + 1 => match w.cell? (a.add i), rdN w a (i + 1) n with
    | some v, some l => some (v :: l)
    | _, _ => none
def rd (k : Option Nat) (w : World) (a : Addr) : Option Value := match k with
  | none => w.cell? a
  | some n => (rdN w a 0 n).map fun l => .agg l.toArray
def rdv (k : Option Nat) (w : World) (v : Value) : Option Value := match v with
  | .pointer (some a) => rd k w a
  | _ => none

/- the operations -/
def pickX (c a b : Value) (w : World) (f : Value → World → Prop) : Prop := match c with
  | .bool true => bindV a w f
  | .bool false => bindV b w f
  | _ => False
def intX (op : BinOp) (k : IntKind) (a b : Int) (w : World) (f : Value → World → Prop) : Prop := match op with
  | .add => f (.int k (k.wrap (a + b))) w
  | .sub => f (.int k (k.wrap (a - b))) w
  | .mul => f (.int k (k.wrap (a * b))) w
  | .quo => needX (b ≠ 0) w (f (.int k (k.wrap (a.tdiv b))))
  | .rem => needX (b ≠ 0) w (f (.int k (a.tmod b)))
  | .and => f (.int k (andI k a b)) w
  | .or => f (.int k (orI k a b)) w
  | .xor => f (.int k (xorI k a b)) w
  | .andNot => f (.int k (andNotI k a b)) w
  | .eql => f (.bool (a == b)) w
  | .neq => f (.bool (a != b)) w
  | .lss => f (.bool (decide (a < b))) w
  | .leq => f (.bool (decide (a ≤ b))) w
  | .gtr => f (.bool (decide (b < a))) w
  | .geq => f (.bool (decide (b ≤ a))) w
  | _ => False
def eqY (o : Option (List (Option IntKind))) (neg : Bool) (xs ys : List Value) (w : World) (f : Value → World → Prop) (D : Prop) : Prop := match o with
  | some ks => needX (fitsK ks xs ∧ fitsK ks ys) w (f (.bool (eqL xs ys != neg)))
  | none => D
def nilX0 (s : Option (Nat × Nat × Nat)) (neg : Bool) (x : Value) (w : World) (f : Value → World → Prop) : Prop := match s with
  | some _ => needX (isSl x) w (f (.bool (nilB x != neg)))
  | none => False
def binX (P : Program) (op : BinOp) (t : TypeId) (cx cy : Operand) (x y : Value) (w : World) (f : Value → World → Prop) : Prop := match op, x, y with
  | .shl, .int k a, .int _ b => needX (0 ≤ b) w (f (.int k (shlI k a b)))
  | .shr, .int k a, .int _ b => needX (0 ≤ b) w (f (.int k (shrI k a b)))
  | op, .int k a, .int k' b => needX (k = k') w fun w => intX op k a b w f
  | .eql, .bool a, .bool b => needX (isBoolT P t = true) w (f (.bool (a == b)))
  | .neq, .bool a, .bool b => needX (isBoolT P t = true) w (f (.bool (a != b)))
  | .eql, .agg xs, .agg ys => eqY (eqKs P t) false xs.toList ys.toList w f (runsV P (do eqGuard .eql t cx cy x y; binOp .eql t x y) w f)
  | .neq, .agg xs, .agg ys => eqY (eqKs P t) true xs.toList ys.toList w f (runsV P (do eqGuard .neq t cx cy x y; binOp .neq t x y) w f)
  | .eql, x, .slice none _ _ => nilX0 (slOf P t) false x w f
  | .neq, x, .slice none _ _ => nilX0 (slOf P t) true x w f
  | op, x, y => runsV P (do eqGuard op t cx cy x y; binOp op t x y) w f
def unX (P : Program) (op : UnOp) (x : Value) (w : World) (f : Value → World → Prop) : Prop := match op, x with
  | .not, .bool b => f (.bool (!b)) w
  | .neg, .int k a => f (.int k (k.wrap (-a))) w
  | op, x => runsV P (Op.unary op x) w f
def fldX (o : Option Nat) (v : Value) (w : World) (f : Value → World → Prop) : Prop := match o, v with
  | some off, .pointer (some a) => f (.pointer (some (a.add off))) w
  | _, _ => False
def optX (o : Option Value) (w : World) (f : Value → World → Prop) : Prop := match o with
  | some v => f v w
  | none => False
def loadX (k : Option (Option Nat)) (w : World) (v : Value) (f : Value → World → Prop) : Prop := match k with
  | some k => optX (rdv k w v) w f
  | none => False
def storeX (P : Program) (t : TypeId) (a v : Value) (w : World) (f : World → Prop) : Prop := match (Instr.storeAt t a v).run P w with
  | .ok _ w' => f w'
  | _ => False
def cellsL : Value → List Value
  | .agg cs => cs.toList
  | v => [v]
def allocX (t : TypeId) (cells : List Value) (w : World) (f : Value → World → Prop) : Prop := f (.pointer (some ⟨w.heap.size, 0, none⟩)) (w.alloc (.cells cells.toArray t))
def rowX (t : TypeId) (cells : List Value) (n : Nat) (w : World) (f : Value → World → Prop) : Prop := f (.slice (some ⟨w.heap.size, 0, none⟩) n n) (w.alloc (.cells cells.toArray t))
def alloc0X (z : Option Value) (t : TypeId) (w : World) (f : Value → World → Prop) : Prop := match z with
  | some z => allocX t (cellsL z) w f
  | none => False
def putAt : List Value → Nat → List Value → List Value
  | z, _, [] => z
  | z, o, c :: cs => putAt (z.set o c) (o + 1) cs
def fillX (pl : List (Nat × Nat)) : List Value → List (Nat × Value) → World → (List Value → World → Prop) → Prop
  | z, [], w, f => f z w
  | z, (i, v) :: rest, w, f => match pl[i]? with
    | some (off, sz) => needX ((cellsL v).length = sz ∧ off + sz ≤ z.length) w fun w => fillX pl (putAt z off (cellsL v)) rest w f
    | none => False
def buildX (b : Option (List (Nat × Nat) × List Value)) (ps : List (Nat × Value)) (w : World) (f : Value → World → Prop) : Prop := match b with
  | some (pl, z) => fillX pl z ps w fun cs w => f (.agg cs.toArray) w
  | none => False
def idxOk : List (Nat × Value) → Nat → Nat → Nat → Prop
  | [], i, n, _ => i = n
  | (j, v) :: r, i, n, sz => j = i ∧ (cellsL v).length = sz ∧ idxOk r (i + 1) n sz
def flatP : List (Nat × Value) → List Value
  | [] => []
  | (_, v) :: r => cellsL v ++ flatP r
def bslX (s : Option (Nat × Nat × Nat)) (z : Option Value) (n : Nat) (ps : List (Nat × Value)) (w : World) (f : Value → World → Prop) : Prop := match s, z with
  | some (e, sz, _), some _ => needX (idxOk ps 0 n sz ∧ n * sz ≤ 16777216 ∧ 0 < sz) w fun w => rowX e (flatP ps) n w f
  | _, _ => False
def zrow (z : List Value) : Nat → List Value
  | 0 => []
  | n + 1 => z ++ zrow z n
def mkslX (s : Option (Nat × Nat × Nat)) (z : Option Value) (l c : Value) (w : World) (f : Value → World → Prop) : Prop := match s, z, l, c with
  | some (e, sz, by_), some z, .int _ l, .int _ c => needX (0 ≤ l ∧ l ≤ c ∧ c < 9223372036854775808 ∧ by_ * c ≤ 281474976710656 ∧ (cellsL z).length = sz ∧ 0 < sz) w fun w => f (.slice (some ⟨w.heap.size, 0, none⟩) l.toNat c.toNat) (w.alloc (.cells (zrow (cellsL z) c.toNat).toArray e))
  | _, _, _, _ => False
def capN : Value → Nat
  | .slice _ _ c => c
  | _ => 0
def cutV (sz : Nat) (v : Value) (l h m : Nat) : Value := match v with
  | .slice a _ _ => .slice (if m = l then a else a.map (·.add (l * sz))) (h - l) (m - l)
  | _ => undef
def sliceX (s : Option (Nat × Nat × Nat)) (x : Value) (lo hi mx : Option Value) (w : World) (f : Value → World → Prop) : Prop := match s, lo, hi, mx with
  | some (_, sz, _), none, none, none => needX (isSl x ∧ lenN x ≤ capN x) w (f (cutV sz x 0 (lenN x) (capN x)))
  | some (_, sz, _), some (.int _ l), none, none => needX (isSl x ∧ 0 ≤ l ∧ l ≤ lenN x ∧ lenN x ≤ capN x) w (f (cutV sz x l.toNat (lenN x) (capN x)))
  | some (_, sz, _), none, some (.int _ h), none => needX (isSl x ∧ 0 ≤ h ∧ h ≤ capN x) w (f (cutV sz x 0 h.toNat (capN x)))
  | some (_, sz, _), some (.int _ l), some (.int _ h), none => needX (isSl x ∧ 0 ≤ l ∧ l ≤ h ∧ h ≤ capN x) w (f (cutV sz x l.toNat h.toNat (capN x)))
  | _, _, _, _ => False
def extX (x : Value) (i : Nat) (w : World) (f : Value → World → Prop) : Prop := match x with
  | .tuple vs => optX vs.toList[i]? w f
  | _ => False
def nilX (x : Value) (w : World) (f : Value → World → Prop) : Prop := match x with
  | .pointer (some a) => f (.pointer (some a)) w
  | _ => False
def convX (s d : Option IntKind) (x : Value) (w : World) (f : Value → World → Prop) : Prop := match s, d, x with
  | some _, some k, .int _ n => f (.int k (k.wrap n)) w
  | _, _, _ => False
/-- A function without a body. -/
def extnX (P : Program) (n : FuncId) (args : Array Value) (w : World) (k : Value → World → Prop) : Prop := match (callFunc n args).run P w with
  | .ok (.value v) w' => k v w'
  | _ => False
def callY (b : Bool) (P : Program) (n : FuncId) (args : Array Value) (w : World) (k : Value → World → Prop) : Prop := match b with
  | true => CallsV P n args w k
  | false => extnX P n args w k
def callX (P : Program) (fv : Value) (args : List Value) (w : World) (k : Value → World → Prop) : Prop := match fv with
  | .func (.func n) first cap => callY (callable P n) P n (first.toList ++ args ++ cap.toList).toArray w k
  | _ => False
def idxX (s : Option (Nat × Nat × Nat)) (x i : Value) (w : World) (f : Value → World → Prop) : Prop := match s, i with
  | some (_, sz, _), .int _ i => needX (SlWf x ∧ 0 ≤ i ∧ i < lenN x) w (f (elemAt x sz i.toNat))
  | _, _ => False
def idxY (a : Option (Nat × Nat)) (s : Option (Nat × Nat × Nat)) (x i : Value) (w : World) (f : Value → World → Prop) : Prop := match a, x, i with
  | none, x, i => idxX s x i w f
  | some (n, sz), .pointer (some ad), .int _ i => needX (0 ≤ i ∧ i < n) w (f (.pointer (some (ad.add (i.toNat * sz)))))
  | _, _, _ => False
def lenX (s : Option (Nat × Nat × Nat)) (x : Value) (w : World) (f : Value → World → Prop) : Prop := match s with
  | some _ => needX (isSl x) w (f (.int .i64 (lenN x)))
  | none => False
def optE (g : Fr) (o : Option Operand) : Option Value := match o with
  | some x => some (ev g x)
  | none => none
def pairE (g : Fr) : List (Nat × Operand) → List (Nat × Value)
  | [] => []
  | (i, x) :: r => (i, ev g x) :: pairE g r
def mapE (g : Fr) : List Operand → List Value
  | [] => []
  | x :: r => ev g x :: mapE g r
def bare (op : Op) (ty : TypeId) : Oper := ⟨none, op, ty, "", #[], none⟩

def appX (P : Program) (t u ty : TypeId) (s x : Value) (w : World) (k : Value → World → Prop) : Prop := runsV P (Builtin.append_ #[t, u] ty #[s, x]) w k
def copyX (P : Program) (t u ty : TypeId) (s x : Value) (w : World) (k : Value → World → Prop) : Prop := runsV P (Builtin.copy_ #[t, u] ty #[s, x]) w k
def clearX (P : Program) (t ty : TypeId) (x : Value) (w : World) (k : Value → World → Prop) : Prop := runsV P (Builtin.clear_ #[t] ty #[x]) w k
def capX (s : Option (Nat × Nat × Nat)) (x : Value) (w : World) (f : Value → World → Prop) : Prop := match s with
  | some _ => needX (isSl x) w (f (.int .i64 (capN x)))
  | none => False
def minX (x y : Value) (w : World) (f : Value → World → Prop) : Prop := match x, y with
  | .int k a, .int _ b => f (.int k (if b < a then b else a)) w
  | _, _ => False
def maxX (x y : Value) (w : World) (f : Value → World → Prop) : Prop := match x, y with
  | .int k a, .int _ b => f (.int k (if b > a then b else a)) w
  | _, _ => False
/-- A builtin. -/
def biX (P : Program) (b : Builtin) (ty : TypeId) (args : List Operand) (ts : List TypeId) (g : Fr) (w : World) (k : Value → World → Prop) : Prop := match b, args, ts with
  | .len, [x], [t] => lenX (slOf P t) (ev g x) w k
  | .cap, [x], [t] => capX (slOf P t) (ev g x) w k
  | .clear, [x], [t] => clearX P t ty (ev g x) w k
  | .append, [s, x], [t, u] => appX P t u ty (ev g s) (ev g x) w k
  | .copy, [s, x], [t, u] => copyX P t u ty (ev g s) (ev g x) w k
  | .min, [x, y], _ => minX (ev g x) (ev g y) w k
  | .max, [x, y], _ => maxX (ev g x) (ev g y) w k
  | b, args, ts => wp1 P (bare (.call ⟨.builtin b, args.toArray, ts.toArray⟩) ty) g w k
/-- What one operation asks. -/
def opX (P : Program) (op : Op) (ty : TypeId) (g : Fr) (w : World) (k : Value → World → Prop) : Prop := match op with
  | .move x => bindV (ev g x) w k
  | .assign x => bindV (ev g x) w k
  | .pick c a b => pickX (ev g c) (ev g a) (ev g b) w k
  | .binOp op t x y _ => binX P op t x y (ev g x) (ev g y) w k
  | .unOp op _ x => unX P op (ev g x) w k
  | .fieldAddr s x i => fldX (fldOf P s i) (ev g x) w k
  | .indexAddr t x i => idxY (arrOf P t) (slOf P t) (ev g x) (ev g i) w k
  | .load t x => loadX (tyK P t) w (ev g x) k
  | .store t a x => storeX P t (ev g a) (ev g x) w fun w' => k undef w'
  | .alloc t => alloc0X (zeroOf P t) t w k
  | .box t x => allocX t (cellsL (ev g x)) w k
  | .build t ps => buildX (bldOf P t) (pairE g ps.toList) w k
  | .buildSlice t n ps => bslX (slOf P t) (zeroElt P t) n (pairE g ps.toList) w k
  | .nilCheck x => nilX (ev g x) w k
  | .convert s d x => convX (intOfT P s) (intOfT P d) (ev g x) w k
  | .makeFunc fn a b => bindV (.func fn (mapE g a.toList).toArray (mapE g b.toList).toArray) w k
  | .makeSlice t l c => mkslX (slOf P t) (zeroElt P t) (ev g l) (ev g c) w k
  | .slice t x lo hi mx => sliceX (slOf P t) (ev g x) (optE g lo) (optE g hi) (optE g mx) w k
  | .extract x i => extX (ev g x) i w k
  | .call ⟨.value f, args, _⟩ => callX P (ev g f) (mapE g args.toList) w k
  | .call ⟨.builtin b, args, ts⟩ => biX P b ty args.toList ts.toList g w k
  | op => wp1 P (bare op ty) g w k
end Go.Proofs.YtmcdgepfhpakiaaGreat
/- The engine: what an operation asks is enough. -/
namespace Go.Proofs.YtmcdgepfhpakiaaGreat
set_option linter.unusedSimpArgs false
set_option linter.unusedVariables false
open Go
section
variable {P : Program} {w : World}

theorem wp1_bare {o : Oper} {g : Fr} {k : Value → World → Prop} : wp1 P o g w k = wp1 P (bare o.op o.type) g w k := rfl

theorem eqGuard_int {op : BinOp} {t : TypeId} {x y : Operand} {j k : IntKind} {a b : Int} : (eqGuard op t x y (.int j a) (.int k b)).run P w = .ok () w := by
  unfold eqGuard
  cases op <;> rfl
theorem eqGuard_bool {op : BinOp} {t : TypeId} {x y : Operand} {a b : Bool} : (eqGuard op t x y (.bool a) (.bool b)).run P w = .ok () w := by
  unfold eqGuard
  cases op <;> rfl
theorem run_equalIn_bool {t : TypeId} {a b : Bool} (ht : P.underlying t = some .bool) (d : Nat) : (Op.equalIn (d + 1) t (.bool a) (.bool b)).run P w = .ok (a == b) w := by
  simp [Op.equalIn, run_underlying ht]
theorem run_binOp_eql_bool {t : TypeId} {a b : Bool} (ht : P.underlying t = some .bool) : (binOp .eql t (.bool a) (.bool b)).run P w = .ok (.bool (a == b)) w := by
  simp only [binOp]
  simp [Op.equal, Op.maxDepth, run_equalIn_bool ht 9999]
theorem run_binOp_neq_bool {t : TypeId} {a b : Bool} (ht : P.underlying t = some .bool) : (binOp .neq t (.bool a) (.bool b)).run P w = .ok (.bool (a != b)) w := by
  simp only [binOp]
  simp [Op.equal, Op.maxDepth, run_equalIn_bool ht 9999]
  cases a <;> cases b <;> rfl
theorem isBoolT_eq {t : TypeId} (h : isBoolT P t = true) : P.underlying t = some .bool := by
  unfold isBoolT at h
  split at h
  · assumption
  · cases h

theorem run_binOp_int {op : BinOp} {t : TypeId} {k : IntKind} {a b : Int} {f : Value → World → Prop} (h1 : op ≠ .shl) (h2 : op ≠ .shr) (h : intX op k a b w f) : ∃ v, (binOp op t (.int k a) (.int k b)).run P w = .ok v w ∧ f v w := by
  cases op <;> simp only [intX, needX] at h <;> first
    | exact absurd rfl h1
    | exact absurd rfl h2
    | exact h.elim
    | (refine ⟨_, ?_, h⟩; simp [binOp, Op.intArith]; done)
    | (refine ⟨_, ?_, h.2⟩; simp [binOp, Op.intDiv, h.1]; done)
    | (refine ⟨_, ?_, h⟩; simp [binOp, Op.intBits, andI, orI, xorI, andNotI]; done)
    | (refine ⟨_, ?_, h⟩; simp [binOp, Op.intCmp]; done)

theorem slOf_parts {t e sz by_ : Nat} (h : slOf P t = some (e, sz, by_)) : ∃ i, P.underlying t = some (.slice e) ∧ P.info? e = some i ∧ i.size = sz ∧ i.bytes = by_ := by
  unfold slOf at h
  split at h
  · rename_i e' ht
    cases hi : P.info? e' with
    | none => simp [hi] at h
    | some i =>
      simp [hi] at h
      obtain ⟨rfl, h2, h3⟩ := h
      exact ⟨i, ht, hi, h2, h3⟩
  · cases h
theorem eqFields_run (w : World) (xs ys : Array Value) (d : Nat) : ∀ (fs : List Field) (i : Nat) (ks : List (Option IntKind)) (us vs : List Value), ((fs.zipIdx i).mapM fun p => if p.1.name == "_" || p.1.offset != p.2 then none else match P.underlying p.1.type with
    | some (.int k) => some (some k)
    | some .bool => some none
    | _ => none) = some ks → fitsK ks us → fitsK ks vs → xs.toList.drop i = us → ys.toList.drop i = vs → (Op.eqFields (d + 1) xs ys fs).run P w = .ok (eqL us vs) w := by
  intro fs
  induction fs with
  | nil =>
    intro i ks us vs h hu hv _ _
    simp at h
    subst h
    cases us with
    | nil => rfl
    | cons u us => exact hu.elim
  | cons f fs ih =>
    intro i ks us vs h hu hv hx hy
    simp only [List.zipIdx_cons, List.mapM_cons, Option.bind_eq_bind, Option.bind_eq_some_iff, Option.pure_def, Option.some.injEq] at h
    obtain ⟨k, hk, r, hr, rfl⟩ := h
    split at hk
    · cases hk
    · rename_i hc
      simp only [Bool.or_eq_true, beq_iff_eq, bne_iff_ne, ne_eq, not_or, Decidable.not_not] at hc
      obtain ⟨hn, ho⟩ := hc
      have get : ∀ (zs : Array Value) (z : Value) (zr : List Value), zs.toList.drop i = z :: zr → zs[i]? = some z ∧ zs.toList.drop (i + 1) = zr := by
        intro zs z zr hz
        have h1 : zs.toList[i]? = some z := by
          have := congrArg (fun l => l[0]?) hz
          simpa [List.getElem?_drop] using this
        have h2 := congrArg List.tail hz
        rw [List.tail_drop] at h2
        exact ⟨by simpa using h1, h2⟩
      split at hk
      · rename_i kk hty
        obtain rfl : some kk = k := by simpa using hk
        cases us with
        | nil => exact hu.elim
        | cons u us => cases vs with
          | nil => exact hv.elim
          | cons v vs => cases u <;> cases v <;> simp only [fitsK] at hu hv <;> first | exact hu.elim | exact hv.elim | skip
                         rename_i k1 a k2 b
                         obtain ⟨rfl, hu⟩ := hu
                         obtain ⟨rfl, hv⟩ := hv
                         obtain ⟨gx, tx⟩ := get xs _ _ hx
                         obtain ⟨gy, ty⟩ := get ys _ _ hy
                         simp only [Op.eqFields, hn, ne_eq, not_false_eq_true, if_true, ho]
                         simp only [Sem.run_bind, part, isAgg, run_underlying hty, Sem.run_pure, Result.andThen_ok, Bool.false_eq_true, if_false, gx, gy, run_equalIn_int _ d f.type _ _ _ _ hty, eqL]
                         cases hab : a == b
                         · simp
                         · simpa using ih (i + 1) r us vs hr hu hv tx ty
      · rename_i hty
        obtain rfl : none = k := by simpa using hk
        cases us with
        | nil => exact hu.elim
        | cons u us => cases vs with
          | nil => exact hv.elim
          | cons v vs => cases u <;> cases v <;> simp only [fitsK] at hu hv <;> first | exact hu.elim | exact hv.elim | skip
                         rename_i a b
                         obtain ⟨gx, tx⟩ := get xs _ _ hx
                         obtain ⟨gy, ty⟩ := get ys _ _ hy
                         simp only [Op.eqFields, hn, ne_eq, not_false_eq_true, if_true, ho]
                         simp only [Sem.run_bind, part, isAgg, run_underlying hty, Sem.run_pure, Result.andThen_ok, Bool.false_eq_true, if_false, gx, gy, run_equalIn_bool' _ d f.type _ _ hty, eqL]
                         cases hab : a == b
                         · simp
                         · simpa using ih (i + 1) r us vs hr hu hv tx ty
      · cases hk
theorem eqKs_run (w : World) {t : TypeId} {ks : List (Option IntKind)} {xs ys : Array Value} (hk : eqKs P t = some ks) (hx : fitsK ks xs.toList) (hy : fitsK ks ys.toList) : P.eqGuardType P.depth t = false ∧ (Op.equalIn 10000 t (.agg xs) (.agg ys)).run P w = .ok (eqL xs.toList ys.toList) w := by
  unfold eqKs at hk
  split at hk
  · rename_i fs ht
    split at hk
    · cases hk
    · rename_i hc
      simp only [Bool.or_eq_true, not_or, Bool.not_eq_true] at hc
      have hf : P.fieldsOf t = fs := by unfold Program.fieldsOf; rw [ht]
      refine ⟨hc.2, ?_⟩
      rw [run_equalIn_struct w 9999 t xs ys (by rw [hf]; exact ht) hc.1, hf]
      exact eqFields_run w xs ys 9998 fs.toList 0 ks _ _ hk hx hy rfl rfl
  · cases hk
theorem eqY_run {op : BinOp} {neg : Bool} {t : TypeId} {cx cy : Operand} {xs ys : Array Value} {f : Value → World → Prop} (hop : (op = .eql ∧ neg = false) ∨ (op = .neq ∧ neg = true))
    (h : eqY (eqKs P t) neg xs.toList ys.toList w f (runsV P (do eqGuard op t cx cy (.agg xs) (.agg ys); binOp op t (.agg xs) (.agg ys)) w f)) : runsV P (do eqGuard op t cx cy (.agg xs) (.agg ys); binOp op t (.agg xs) (.agg ys)) w f := by
  unfold eqY at h
  split at h
  · rename_i ks hk
    obtain ⟨⟨hx, hy⟩, hf⟩ := h
    obtain ⟨hg, he⟩ := eqKs_run w hk hx hy
    refine runsV_ok ?_ hf
    rw [Sem.run_bind, run_eqGuard_agg w op t cx cy xs ys hg]
    rcases hop with ⟨rfl, rfl⟩ | ⟨rfl, rfl⟩
    · simp [run_eql_struct w t xs ys, he]
    · simp [run_neq_struct w t xs ys, he]
  · exact h
theorem run_equalIn_slnil (w : World) {t e : TypeId} {a : Option Addr} {m n c c' : Nat} (hu : P.underlying t = some (.slice e)) (d : Nat) : (Op.equalIn (d + 1) t (.slice a m c) (.slice none n c')).run P w = .ok a.isNone w := by
  cases a <;> simp [Op.equalIn, run_underlying hu]
theorem run_binOp_eql_slnil (w : World) {t e : TypeId} {a : Option Addr} {m n c c' : Nat} (hu : P.underlying t = some (.slice e)) : (binOp .eql t (.slice a m c) (.slice none n c')).run P w = .ok (.bool a.isNone) w := by
  simp only [binOp]
  simp [Op.equal, Op.maxDepth, run_equalIn_slnil w hu 9999]
theorem run_binOp_neq_slnil (w : World) {t e : TypeId} {a : Option Addr} {m n c c' : Nat} (hu : P.underlying t = some (.slice e)) : (binOp .neq t (.slice a m c) (.slice none n c')).run P w = .ok (.bool (!a.isNone)) w := by
  simp only [binOp]
  simp [Op.equal, Op.maxDepth, run_equalIn_slnil w hu 9999]
theorem run_eqGuard_sl (w : World) {op : BinOp} {t : TypeId} {cx cy : Operand} {a b : Option Addr} {m n c c' : Nat} : (eqGuard op t cx cy (.slice a m c) (.slice b n c')).run P w = .ok () w := by
  cases op <;> simp [eqGuard]
theorem nilX0_run {op : BinOp} {neg : Bool} {t : TypeId} {cx cy : Operand} {x : Value} {n c : Nat} {f : Value → World → Prop} (hop : (op = .eql ∧ neg = false) ∨ (op = .neq ∧ neg = true))
    (h : nilX0 (slOf P t) neg x w f) : runsV P (do eqGuard op t cx cy x (.slice none n c); binOp op t x (.slice none n c)) w f := by
  unfold nilX0 at h
  split at h
  · rename_i r hs
    obtain ⟨e, sz, by_⟩ := r
    obtain ⟨ti, hu, _⟩ := slOf_parts hs
    obtain ⟨hx, hf⟩ := h
    cases x with
    | slice a m d =>
      refine runsV_ok (w' := w) ?_ hf
      rw [Sem.run_bind, run_eqGuard_sl]
      rcases hop with ⟨rfl, rfl⟩ | ⟨rfl, rfl⟩
      · simp only [Result.andThen_ok, run_binOp_eql_slnil w hu]
        cases a <;> rfl
      · simp only [Result.andThen_ok, run_binOp_neq_slnil w hu]
        cases a <;> rfl
    | _ => exact hx.elim
  · exact h.elim
theorem binX_run {op : BinOp} {t : TypeId} {cx cy : Operand} {x y : Value} {f : Value → World → Prop} (h : binX P op t cx cy x y w f) : runsV P (do eqGuard op t cx cy x y; binOp op t x y) w f := by
  unfold binX at h
  split at h
  · obtain ⟨hb, hf⟩ := h
    refine runsV_ok ?_ hf
    rename_i k a j b
    have hn : ¬ b < 0 := by omega
    simp [eqGuard_int, binOp, Op.shift, hn, shlI]
  · obtain ⟨hb, hf⟩ := h
    refine runsV_ok ?_ hf
    rename_i k a j b
    have hn : ¬ b < 0 := by omega
    simp [eqGuard_int, binOp, Op.shift, hn, shrI]
  · rename_i k a k' b n1 n2
    obtain ⟨rfl, hf⟩ := h
    obtain ⟨v, hr, hv⟩ := run_binOp_int (P := P) (w := w) (t := t) n1 n2 hf
    exact runsV_ok (by rw [Sem.run_bind, eqGuard_int]; exact hr) hv
  · obtain ⟨hb, hf⟩ := h
    exact runsV_ok (by rw [Sem.run_bind, eqGuard_bool]; exact run_binOp_eql_bool (isBoolT_eq hb)) hf
  · obtain ⟨hb, hf⟩ := h
    exact runsV_ok (by rw [Sem.run_bind, eqGuard_bool]; exact run_binOp_neq_bool (isBoolT_eq hb)) hf
  · exact eqY_run (.inl ⟨rfl, rfl⟩) h
  · exact eqY_run (.inr ⟨rfl, rfl⟩) h
  · exact nilX0_run (.inl ⟨rfl, rfl⟩) h
  · exact nilX0_run (.inr ⟨rfl, rfl⟩) h
  · exact h

theorem unX_run {op : UnOp} {x : Value} {f : Value → World → Prop} (h : unX P op x w f) : runsV P (Op.unary op x) w f := by
  unfold unX at h
  split at h
  · exact runsV_ok (by simp [Op.unary]) h
  · exact runsV_ok (by simp [Op.unary, Op.intArith]) h
  · exact h

theorem run_sizeOf' {t : TypeId} {i : TypeInfo} (h : P.info? t = some i) : (sizeOf t).run P w = .ok i.size w := by
  simp [sizeOf, typeInfo, h]

theorem fldX_run {s i : Nat} {v : Value} {f : Value → World → Prop} (h : fldX (fldOf P s i) v w f) : runsV P (Instr.fieldAt s v i) w fun u w' => w' = w ∧ f u w := by
  unfold fldX at h
  split at h
  · rename_i off a ho
    unfold fldOf at ho
    split at ho
    · rename_i fs hs
      split at ho
      · rename_i fl hf
        split at ho
        · rename_i ti hti
          split at ho
          · cases ho
          · rename_i hz
            obtain rfl : fl.offset = off := by simpa using ho
            refine runsV_ok (w' := w) ?_ ⟨rfl, h⟩
            simp [Instr.fieldAt, run_underlying hs, hf, Instr.sureAddr, fieldPlace, run_sizeOf' hti, hz]
        · cases ho
      · cases ho
    · cases ho
  · exact h.elim

theorem idxX_run {t : TypeId} {x i : Value} {f : Value → World → Prop} (h : idxX (slOf P t) x i w f) : runsV P (Instr.indexAt t x i) w fun u w' => w' = w ∧ f u w := by
  unfold idxX at h
  split at h
  · rename_i e sz by_ k n hs
    obtain ⟨⟨hw, h0, hn⟩, hf⟩ := h
    obtain ⟨ti, hu, hi, hsz, _⟩ := slOf_parts hs
    cases x with
    | slice A len cap =>
      cases A with
      | none => simp only [SlWf] at hw; subst hw; simp [lenN] at hn; omega
      | some a =>
        refine runsV_ok (w' := w) ?_ ⟨rfl, hf⟩
        simp only [lenN] at hn
        simp [Instr.indexAt, asIntOf, run_underlying hu, h0, hn, run_sizeOf' hi, hsz, elemAt]
    | _ => exact hw.elim
  · exact h.elim

theorem idxY_run {t : TypeId} {x i : Value} {f : Value → World → Prop} (h : idxY (arrOf P t) (slOf P t) x i w f) : runsV P (Instr.indexAt t x i) w fun u w' => w' = w ∧ f u w := by
  unfold idxY at h
  split at h
  · exact idxX_run h
  · rename_i n sz ad k i ha
    obtain ⟨⟨h0, hn⟩, hf⟩ := h
    unfold arrOf at ha
    split at ha
    · rename_i n' e hu
      cases hi : P.info? e with
      | none => simp [hi] at ha
      | some ti =>
        simp [hi] at ha
        obtain ⟨rfl, rfl⟩ := ha
        refine runsV_ok (w' := w) ?_ ⟨rfl, hf⟩
        simp [Instr.indexAt, asIntOf, run_underlying hu, Instr.sureAddr, h0, hn, run_sizeOf' hi]
    · cases ha
  · exact h.elim
theorem lenX_run {t ty : TypeId} {x : Value} {f : Value → World → Prop} (h : lenX (slOf P t) x w f) : runsV P (Builtin.len_ #[t] ty #[x]) w fun u w' => w' = w ∧ f u w := by
  unfold lenX at h
  split at h
  · rename_i r hs
    obtain ⟨e, sz, by_⟩ := r
    obtain ⟨ti, hu, hi, hsz, _⟩ := slOf_parts hs
    obtain ⟨hx, hf⟩ := h
    cases x with
    | slice A len cap => exact runsV_ok (w' := w) (by simp [Builtin.len_, run_underlying hu, goInt]; rfl) ⟨rfl, hf⟩
    | _ => exact hx.elim
  · exact h.elim

theorem cap_run {t ty : TypeId} {x : Value} {f : Value → World → Prop} (h : capX (slOf P t) x w f) : runsV P (Builtin.cap_ #[t] ty #[x]) w fun u w' => w' = w ∧ f u w := by
  unfold capX at h
  split at h
  · rename_i r hs
    obtain ⟨e, sz, by_⟩ := r
    obtain ⟨ti, hu, hi, hsz, _⟩ := slOf_parts hs
    obtain ⟨hx, hf⟩ := h
    cases x with
    | slice A len cap => exact runsV_ok (w' := w) (by simp [Builtin.cap_, run_underlying hu, goInt]; rfl) ⟨rfl, hf⟩
    | _ => exact hx.elim
  · exact h.elim
theorem rdN_some {a : Addr} : ∀ {i n : Nat} {l : List Value}, rdN w a i n = some l → l.length = n ∧ ∀ j v, l[j]? = some v → w.cell? (a.add (i + j)) = some v := by
  intro i n
  induction n generalizing i with
  | zero => intro l h; simp [rdN] at h; subst h; simp
  | succ n ih =>
    intro l h
    unfold rdN at h
    split at h
    · rename_i v l' hv hl'
      obtain ⟨h1, h2⟩ := ih hl'
      obtain rfl : v :: l' = l := by simpa using h
      refine ⟨by simp [h1], fun j u hj => ?_⟩
      cases j with
      | zero => simp at hj; subst hj; exact hv
      | succ j => have := h2 j u (by simpa using hj); rwa [show i + (j + 1) = i + 1 + j by omega]
    · cases h

theorem loadX_run {t : TypeId} {v : Value} {f : Value → World → Prop} (h : loadX (tyK P t) w v f) : runsV P (Instr.loadAt t v) w fun u w' => w' = w ∧ f u w := by
  unfold loadX at h
  split at h
  · rename_i k hk
    unfold optX at h
    split at h
    · rename_i u hu
      unfold rdv at hu
      split at hu
      · rename_i a
        refine runsV_ok (w' := w) ?_ ⟨rfl, h⟩
        have agg : ∀ n d i, P.underlying t = some d → (d matches .struct _ | .array _ _) = true → P.info? t = some i → i.size = n → rd (some n) w a = some u → (Instr.loadAt t (.pointer (some a))).run P w = .ok u w := by
          intro n d i hd hm hi hn hr
          simp only [rd, Option.map_eq_some_iff] at hr
          obtain ⟨l, hl, rfl⟩ := hr
          obtain ⟨h1, h2⟩ := rdN_some hl
          have hc := run_loadCells_list (P := P) w a l (fun j v hj => by simpa using h2 j v hj)
          cases d <;> simp at hm <;> simp [Instr.loadAt, Instr.sureAddr, loadVar, isAgg, run_underlying hd, run_sizeOf' hi, hn, ← h1, hc]
        unfold tyK at hk
        split at hk
        · rename_i fs hd
          cases hi : P.info? t with
          | none => simp [hi] at hk
          | some i => simp [hi] at hk; subst hk; exact agg _ _ i hd rfl hi rfl hu
        · rename_i l e hd
          cases hi : P.info? t with
          | none => simp [hi] at hk
          | some i => simp [hi] at hk; subst hk; exact agg _ _ i hd rfl hi rfl hu
        · rename_i d hn1 hn2 hd
          split at hk
          · rename_i i hi
            split at hk
            · simp at hk; subst hk
              simp only [rd] at hu
              cases d <;> simp [Instr.loadAt, Instr.sureAddr, loadVar, isAgg, run_underlying hd, hu]
              · exact absurd rfl (hn2 _ _)
              · exact absurd rfl (hn1 _)
            · cases hk
          · cases hk
        · cases hk
      · cases hu
    · exact h.elim
  · exact h.elim

theorem cellsL_eq (v : Value) : v.cells.toList = cellsL v := by cases v <;> rfl
theorem alloc_run {f : Value → World → Prop} {t : TypeId} {v : Value} (h : allocX t (cellsL v) w f) : runsV P (Instr.box t v) w f := by
  unfold allocX at h
  rw [← cellsL_eq] at h
  exact runsV_ok (by simp [Instr.box, newVar, newRow]) h
theorem alloc0_run {f : Value → World → Prop} {t : TypeId} (h : alloc0X (zeroOf P t) t w f) : runsV P (Instr.alloc t true (.tuple #[])) w f := by
  unfold alloc0X at h
  split at h
  · rename_i z hz
    unfold zeroOf at hz
    cases hi : P.info? t with
    | none => simp [hi] at hz
    | some i =>
      simp [hi] at hz
      unfold allocX at h
      rw [← cellsL_eq] at h
      exact runsV_ok (by simp [Instr.alloc, zeroValue, typeInfo, hi, hz, newVar, newRow]) h
  · exact h.elim

theorem putAt_length : ∀ (cs z : List Value) (o : Nat), (putAt z o cs).length = z.length := by
  intro cs
  induction cs with
  | nil => intro z o; rfl
  | cons c cs ih => intro z o; simp [putAt, ih]
theorem foldl_putAt : ∀ (cs : List Value) (j o : Nat) (z : List Value), (cs.zipIdx j).foldl (fun (a : Array Value) (x : Value × Nat) => a.setIfInBounds (o + x.2) x.1) z.toArray = (putAt z (o + j) cs).toArray := by
  intro cs
  induction cs with
  | nil => intro j o z; simp [putAt]
  | cons c cs ih =>
    intro j o z
    simp only [List.zipIdx_cons, List.foldl_cons, putAt]
    rw [show z.toArray.setIfInBounds (o + j) c = (z.set (o + j) c).toArray by simp, ih]
    rfl

theorem fill_of_fillX {pl : List (Nat × Nat)} {place : Nat → Option (Nat × Nat)} (hp : ∀ i, place i = pl[i]?) {f : List Value → World → Prop} : ∀ (ps : List (Nat × Value)) (z : List Value), fillX pl z ps w f → ∃ cs, Instr.fill place z.toArray ps = some cs.toArray ∧ f cs w := by
  intro ps
  induction ps with
  | nil => intro z h; exact ⟨z, rfl, h⟩
  | cons p ps ih =>
    intro z h
    obtain ⟨i, v⟩ := p
    unfold fillX at h
    unfold Instr.fill
    rw [hp]
    split at h
    · rename_i off sz hi
      rw [hi]
      obtain ⟨⟨h1, h2⟩, h3⟩ := h
      obtain ⟨cs, hc, hf⟩ := ih _ h3
      refine ⟨cs, ?_, hf⟩
      have hsz : v.cells.size = sz := by rw [← h1, ← cellsL_eq]; simp
      have hle : ¬ (v.cells.size ≠ sz ∨ off + v.cells.size > z.length) := by omega
      simp only [List.size_toArray, Bool.or_eq_true, bne_iff_ne, decide_eq_true_eq, hsz, ne_eq, not_true_eq_false, false_or, gt_iff_lt, if_neg (by omega : ¬ z.length < off + sz)]
      rw [← hc]
      congr 1
      have := foldl_putAt v.cells.toList 0 off z
      rw [Nat.add_zero, cellsL_eq] at this
      rw [← this]
      rw [← Array.foldl_toList, Array.toList_zipIdx, cellsL_eq]
    · exact h.elim
theorem pairE_eq (g : Fr) : ∀ l : List (Nat × Operand), (l.map fun (p : Nat × Operand) => (p.1, ev g p.2)) = pairE g l := by
  intro l
  induction l with
  | nil => rfl
  | cons p l ih => obtain ⟨i, x⟩ := p; simp [pairE, ih]
theorem pairE_arr (g : Fr) (a : Array (Nat × Operand)) : (a.map fun (p : Nat × Operand) => (p.1, ev g p.2)) = (pairE g a.toList).toArray := by
  rw [← pairE_eq]
  apply Array.ext'
  simp
theorem mapE_eq (g : Fr) : ∀ l : List Operand, l.map (ev g) = mapE g l := by
  intro l
  induction l with
  | nil => rfl
  | cons p l ih => simp [mapE, ih]
theorem mapE_arr (g : Fr) (a : Array Operand) : a.map (ev g) = (mapE g a.toList).toArray := by
  rw [← mapE_eq]
  apply Array.ext'
  simp

theorem run_mapM_place {fs : List Field} {pl : List (Nat × Nat)} (h : (fs.mapM fun f => (P.info? f.type).map fun i => (f.offset, i.size)) = some pl) :
    (fs.mapM (m := Sem) fun f => Functor.map (Prod.mk f.offset) (sizeOf f.type)).run P w = .ok pl w := by
  induction fs generalizing pl with
  | nil => simp at h; subst h; simp
  | cons f fs ih =>
    simp only [List.mapM_cons, Option.bind_eq_bind, Option.bind_eq_some_iff, Option.pure_def, Option.some.injEq] at h
    obtain ⟨x, hx, y, hy, rfl⟩ := h
    cases hi : P.info? f.type with
    | none => simp [hi] at hx
    | some i =>
      simp [hi] at hx
      simp [List.mapM_cons, run_sizeOf' hi, ih hy, hx]

theorem build_run {f : Value → World → Prop} {t : TypeId} {ps : List (Nat × Value)} (h : buildX (bldOf P t) ps w f) : runsV P (Instr.build t ps.toArray) w fun u w' => w' = w ∧ f u w := by
  unfold buildX at h
  split at h
  · rename_i pl z hb
    unfold bldOf at hb
    split at hb
    · rename_i fs zv hu hz
      simp only [Option.map_eq_some_iff, Prod.mk.injEq] at hb
      obtain ⟨pl', hpl, rfl, rfl⟩ := hb
      obtain ⟨cs, hc, hf⟩ := fill_of_fillX (place := fun i => (pl'.toArray)[i]?) (fun i => by simp) ps _ h
      refine runsV_ok (w' := w) ?_ ⟨rfl, hf⟩
      unfold zeroOf at hz
      cases hi : P.info? t with
      | none => simp [hi] at hz
      | some i =>
        simp [hi] at hz
        have hm := run_mapM_place (P := P) (w := w) hpl
        have hm' : (fs.mapM (m := Sem) fun f => Functor.map (Prod.mk f.offset) (sizeOf f.type)).run P w = .ok pl'.toArray w := by
          rw [Array.mapM_eq_mapM_toList]
          simp only [Sem.run_map]
          rw [hm]
          rfl
        simp only [Array.toArray_toList] at hc
        have hc' : Instr.fill (fun x => pl'[x]?) zv.cells ps = some cs.toArray := by simpa using hc
        simp [Instr.build, zeroValue, typeInfo, hi, hz, run_underlying hu, hm', hc']
    · cases hb
  · exact h.elim

theorem idxOk_fill {e : Nat} : ∀ (ps : List (Nat × Value)) (i n : Nat) (pre post : List Value), idxOk ps i n e → pre.length = i * e → post.length = (n - i) * e → i ≤ n ∧
    Instr.fill (fun j => some (j * e, e)) (pre ++ post).toArray ps = some (pre ++ flatP ps).toArray ∧ (flatP ps).length = (n - i) * e := by
  intro ps
  induction ps with
  | nil =>
    intro i n pre post h h1 h2
    simp only [idxOk] at h
    subst h
    have : post = [] := List.eq_nil_of_length_eq_zero (by simpa using h2)
    subst this
    simp [Instr.fill, flatP]
  | cons p ps ih =>
    intro i n pre post h h1 h2
    obtain ⟨j, v⟩ := p
    simp only [idxOk] at h
    obtain ⟨rfl, hv, h⟩ := h
    have hle : j + 1 ≤ n := by
      have key : ∀ (l : List (Nat × Value)) i, idxOk l i n e → i ≤ n := by
        intro l
        induction l with
        | nil => intro i h; simp only [idxOk] at h; omega
        | cons p l ih => intro i h; obtain ⟨a, b⟩ := p; simp only [idxOk] at h; have := ih _ h.2.2; omega
      exact key _ _ h
    have hpost : e ≤ post.length := by rw [h2, show n - j = (n - (j + 1)) + 1 by omega, Nat.succ_mul]; omega
    have hput : putAt (pre ++ post) (j * e) (cellsL v) = (pre ++ cellsL v) ++ post.drop e := by
      have key : ∀ (cs pre post : List Value), cs.length ≤ post.length → putAt (pre ++ post) pre.length cs = (pre ++ cs) ++ post.drop cs.length := by
        intro cs
        induction cs with
        | nil => intro pre post _; simp [putAt]
        | cons c cs ih =>
          intro pre post hl
          cases post with
          | nil => simp at hl
          | cons q post =>
            simp only [putAt]
            have : (pre ++ q :: post).set pre.length c = (pre ++ [c]) ++ post := by simp
            rw [this]
            have hi := ih (pre ++ [c]) post (by simpa using hl)
            simp only [List.length_append, List.length_singleton] at hi
            rw [hi]
            simp
      rw [← h1, ← hv]
      exact key _ _ _ (by rw [hv]; exact hpost)
    obtain ⟨hn, hf, hl⟩ := ih (j + 1) n (pre ++ cellsL v) (post.drop e) h (by simp [h1, hv, Nat.succ_mul]) (by
      rw [List.length_drop, h2, show n - j = (n - (j + 1)) + 1 by omega, Nat.succ_mul]; omega)
    refine ⟨by omega, ?_, ?_⟩
    · unfold Instr.fill
      have hsz : v.cells.size = e := by rw [← hv, ← cellsL_eq]; simp
      have hb : ¬ (pre ++ post).length < j * e + e := by rw [List.length_append, h1]; omega
      simp only [List.size_toArray, hsz, bne_self_eq_false, ne_eq, not_true_eq_false, gt_iff_lt, hb, decide_false, Bool.or_self, if_false, Bool.false_eq_true, false_or]
      rw [← Array.foldl_toList, Array.toList_zipIdx, cellsL_eq]
      have hfo := foldl_putAt (cellsL v) 0 (j * e) (pre ++ post)
      rw [Nat.add_zero] at hfo
      rw [hfo, hput, hf]
      simp [flatP]
    · simp only [flatP, List.length_append, hv, hl]
      rw [show n - j = (n - (j + 1)) + 1 by omega, Nat.succ_mul]
      omega

theorem bsl_run {f : Value → World → Prop} {t n : Nat} {ps : List (Nat × Value)} (h : bslX (slOf P t) (zeroElt P t) n ps w f) : runsV P (Instr.buildSlice t n ps.toArray) w f := by
  unfold bslX at h
  split at h
  · rename_i e sz by_ zv hs hzz
    obtain ⟨⟨h1, h2, h0⟩, h3⟩ := h
    obtain ⟨ti, hu, hi, hsz, _⟩ := slOf_parts hs
    simp only [zeroElt, hs, zeroOf, hi, Option.bind_some] at hzz
    obtain ⟨z, hzv⟩ : ∃ z, ti.zero = some z := ⟨_, hzz⟩
    unfold rowX at h3
    refine runsV_ok ?_ h3
    have hn : ¬ (2 ^ 24 < n * sz) := by omega
    have key : ∀ cells : Array Value, cells.size = n * sz → Instr.fill (fun i => some (i * sz, sz)) cells ps = some (flatP ps).toArray := by
      intro cells hc
      have := (idxOk_fill ps 0 n [] cells.toList h1 (by simp) (by simpa using hc)).2.1
      simpa using this
    by_cases h0' : n * sz = 0
    · have := key ((Array.range (n * sz)).map (fun x => (#[] : Array Value)[x % 0]!)) (by simp)
      simp [Instr.buildSlice, run_underlying hu, run_sizeOf' hi, hsz, hn, h0', newRow] at this ⊢
      simp [this]
    · have := key ((Array.range (n * sz)).map (fun x => z.cells[x % z.cells.size]!)) (by simp)
      simp [Instr.buildSlice, run_underlying hu, run_sizeOf' hi, hsz, hn, h0', zeroValue, typeInfo, hi, hzv, newRow] at this ⊢
      simp [this]
  · exact h.elim

theorem ext_run {x : Value} {i : Nat} {f : Value → World → Prop} (h : extX x i w f) : runsV P (Instr.extract x i) w fun u w' => w' = w ∧ f u w := by
  unfold extX at h
  split at h
  · unfold optX at h
    split at h
    · rename_i vs v hv
      simp only [Array.getElem?_toList] at hv
      exact runsV_ok (w' := w) (by simp [Instr.extract, hv]) ⟨rfl, h⟩
    · exact h.elim
  · exact h.elim
theorem intOfT_eq {t : TypeId} {k : IntKind} (h : intOfT P t = some k) : P.underlying t = some (.int k) := by
  unfold intOfT at h
  split at h
  · simp at h; subst h; assumption
  · cases h
theorem conv_run {s d : TypeId} {x : Value} {f : Value → World → Prop} (h : convX (intOfT P s) (intOfT P d) x w f) : runsV P (convert s d x) w fun u w' => w' = w ∧ f u w := by
  unfold convX at h
  split at h
  · rename_i k1 k2 k n hs hd
    exact runsV_ok (w' := w) (by simp [convert, run_underlying (intOfT_eq hs), run_underlying (intOfT_eq hd), Conv.intToInt]) ⟨rfl, h⟩
  · exact h.elim
theorem call_run {fv : Value} {args : List Value} {k : Value → World → Prop} {o : Oper} {g : Fr} {f : Operand} {as : Array Operand} {ts : Array TypeId} (ho : o.op = .call ⟨.value f, as, ts⟩) (hf : ev g f = fv) (ha : mapE g as.toList = args)
    (h : callX P fv args w k) : wp1 P o g w k := by
  unfold callX at h
  split at h
  · rename_i n first cap
    have hargs : as.map (ev g) = args.toArray := by rw [mapE_arr, ha]
    have e : (first.toList ++ args ++ cap.toList).toArray = first ++ args.toArray ++ cap := by apply Array.ext'; simp
    rw [e] at h
    cases hb : callable P n with
    | true =>
      rw [hb] at h
      unfold callable at hb
      split at hb
      · rename_i fn hfn
        simp only [Bool.and_eq_true, Bool.not_eq_true'] at hb
        unfold wp1
        have h1 : ¬ fn.name = "runtime.NumGoroutine" := by simpa using hb.1
        have h2 : ¬ fn.body = none := by intro e; simp [e] at hb
        have : (execOp (ev g) o).run P w = .ok (.enter n ((first ++ args.toArray) ++ cap)) w := by
          simp [execOp, ho, resolve, hf, Deferred.ofValue, hargs, invoke, callFunc, hfn, h1, h2]
        rw [this]
        exact h
      · cases hb
    | false =>
      rw [hb] at h
      have h : extnX P n (first ++ args.toArray ++ cap) w k := h
      unfold extnX at h
      unfold wp1
      have : (execOp (ev g) o).run P w = (callFunc n ((first ++ args.toArray) ++ cap)).run P w := by
        simp [execOp, ho, resolve, hf, Deferred.ofValue, hargs, invoke]
      rw [this]
      split at h
      · rename_i v w' e; rw [e]; exact h
      · exact h.elim
  · exact h.elim
theorem isSl_form {x : Value} (h : isSl x) : x = .slice (match x with | .slice a _ _ => a | _ => none) (lenN x) (capN x) := by
  cases x <;> first | rfl | exact h.elim
theorem slice_run {t : TypeId} {x : Value} {lo hi mx : Option Value} {f : Value → World → Prop} (h : sliceX (slOf P t) x lo hi mx w f) : runsV P (Instr.sliceAt t x lo hi mx) w fun u w' => w' = w ∧ f u w := by
  unfold sliceX at h
  split at h
  · rename_i e sz by_ hs
    obtain ⟨⟨hx, h1⟩, hf⟩ := h
    obtain ⟨ti, hu, hi, hsz, _⟩ := slOf_parts hs
    cases x with
    | slice a n c => exact runsV_ok (w' := w) (by simp [Instr.sliceAt, run_underlying hu, Instr.slice, Instr.sliceBounds, run_sizeOf' hi, hsz, cutV, lenN, capN]) ⟨rfl, hf⟩
    | _ => exact hx.elim
  · rename_i e sz by_ k l hs
    obtain ⟨⟨hx, h1, h2, h3⟩, hf⟩ := h
    obtain ⟨ti, hu, hi, hsz, _⟩ := slOf_parts hs
    cases x with
    | slice a n c =>
      simp only [lenN, capN] at h2 h3
      exact runsV_ok (w' := w) (by simp [Instr.sliceAt, run_underlying hu, Instr.slice, Instr.sliceBounds, Instr.sliceBound, asIntOf, h1, h2, run_sizeOf' hi, hsz, cutV, lenN, capN] <;> congr) ⟨rfl, hf⟩
    | _ => exact hx.elim
  · rename_i e sz by_ k l hs
    obtain ⟨⟨hx, h1, h2⟩, hf⟩ := h
    obtain ⟨ti, hu, hi, hsz, _⟩ := slOf_parts hs
    cases x with
    | slice a n c =>
      simp only [capN] at h2
      exact runsV_ok (w' := w) (by simp [Instr.sliceAt, run_underlying hu, Instr.slice, Instr.sliceBounds, Instr.sliceBound, asIntOf, h1, h2, run_sizeOf' hi, hsz, cutV, lenN, capN]) ⟨rfl, hf⟩
    | _ => exact hx.elim
  · rename_i e sz by_ k l k' hh hs
    obtain ⟨⟨hx, h1, h2, h3⟩, hf⟩ := h
    obtain ⟨ti, hu, hi, hsz, _⟩ := slOf_parts hs
    have h4 : 0 ≤ hh := by omega
    cases x with
    | slice a n c =>
      simp only [capN] at h3
      have h5 : (l ≤ (hh.toNat : Int)) := by omega
      have h6 : l ≤ max hh 0 := by omega
      exact runsV_ok (w' := w) (by simp [Instr.sliceAt, run_underlying hu, Instr.slice, Instr.sliceBounds, Instr.sliceBound, asIntOf, h1, h3, h4, h6, run_sizeOf' hi, hsz, cutV, lenN, capN] <;> congr) ⟨rfl, hf⟩
    | _ => exact hx.elim
  · exact h.elim

theorem zrow_size (z : List Value) : ∀ n, (zrow z n).length = n * z.length := by
  intro n
  induction n with
  | zero => simp [zrow]
  | succ n ih => simp [zrow, ih, Nat.succ_mul]; omega
theorem zrow_get (z : List Value) (hz : 0 < z.length) : ∀ n j, j < n * z.length → (zrow z n)[j]? = z[j % z.length]? := by
  intro n
  induction n with
  | zero => intro j h; simp at h
  | succ n ih =>
    intro j h
    simp only [zrow]
    by_cases hj : j < z.length
    · rw [List.getElem?_append_left hj, Nat.mod_eq_of_lt hj]
    · rw [List.getElem?_append_right (by omega), ih (j - z.length) (by rw [Nat.succ_mul] at h; omega)]
      congr 1
      conv => rhs; rw [show j = (j - z.length) + z.length by omega, Nat.add_mod_right]
theorem zrow_eq (z : Array Value) (n : Nat) (hz : 0 < z.size) : (Array.range (n * z.size)).map (fun x => z[x % z.size]!) = (zrow z.toList n).toArray := by
  apply Array.ext'
  apply List.ext_getElem?
  intro j
  by_cases hj : j < n * z.size
  · have := zrow_get z.toList (by simpa using hz) n j (by simpa using hj)
    simp only [Array.length_toList] at this
    simp only [Array.toList_map, Array.toList_range, List.getElem?_map]
    rw [this, List.getElem?_range hj]
    have hm : j % z.size < z.size := Nat.mod_lt _ hz
    simp [hm]
  · rw [List.getElem?_eq_none (by simp; omega), List.getElem?_eq_none (by simp [zrow_size]; omega)]
theorem wrap_i64_id {x : Int} (h1 : -9223372036854775808 ≤ x) (h2 : x < 9223372036854775808) : IntKind.i64.wrap x = x := by
  rw [IntKind.wrap_i64]; omega
theorem mksl_run {t : TypeId} {l c : Value} {f : Value → World → Prop} (h : mkslX (slOf P t) (zeroElt P t) l c w f) : runsV P (Instr.makeSlice t l c) w f := by
  unfold mkslX at h
  split at h
  · rename_i e sz by_ z k1 l k2 c hs hz
    obtain ⟨⟨h1, h2, h3, h4, h5, h0⟩, hf⟩ := h
    obtain ⟨ti, hu, hi, hsz, hby⟩ := slOf_parts hs
    simp only [zeroElt, hs, zeroOf, hi, Option.bind_some] at hz
    have hzs : z.cells.size = sz := by rw [← h5, ← cellsL_eq]; simp
    refine runsV_ok ?_ hf
    have e1 := wrap_i64_id (x := l) (by omega) (by omega)
    have e2 := wrap_i64_id (x := c) (by omega) (by omega)
    have n1 : ¬ c < 0 := by omega
    have n2 : ¬ l < 0 := by omega
    have n3 : ¬ c < l := by omega
    have n4 : ¬ ((281474976710656 : Int) < by_ * c) := by omega
    have hrow := zrow_eq z.cells c.toNat (by omega)
    rw [cellsL_eq, hzs] at hrow
    by_cases hc0 : c.toNat * sz = 0
    · have hc00 : c.toNat = 0 := by
        rcases Nat.mul_eq_zero.1 hc0 with h | h
        · exact h
        · omega
      simp [Instr.makeSlice, run_underlying hu, asInt, asIntOf, typeInfo, hi, e1, e2, n1, n2, n3, n4, hby, run_sizeOf' hi, hsz, hc00, newRow, zrow]
      congr 2
      exact Array.eq_empty_of_size_eq_zero (by simp)
    · have hc1 : ¬ (c.toNat = 0 ∨ sz = 0) := by
        intro h
        exact hc0 (Nat.mul_eq_zero.2 h)
      simp [Instr.makeSlice, run_underlying hu, asInt, asIntOf, typeInfo, hi, e1, e2, n1, n2, n3, n4, hby, run_sizeOf' hi, hsz, hc1, newRow, zeroValue, hz, hzs]
      rw [hrow, if_neg hc0]
  · exact h.elim

theorem min_run {ts : Array TypeId} {ty : TypeId} {x y : Value} {f : Value → World → Prop} (h : minX x y w f) : runsV P (Builtin.min_ ts ty #[x, y]) w fun u w' => w' = w ∧ f u w := by
  unfold minX at h
  split at h
  · exact runsV_ok (w' := w) (by simp [Builtin.min_, Builtin.min2]) ⟨rfl, h⟩
  · exact h.elim
theorem max_run {ts : Array TypeId} {ty : TypeId} {x y : Value} {f : Value → World → Prop} (h : maxX x y w f) : runsV P (Builtin.max_ ts ty #[x, y]) w fun u w' => w' = w ∧ f u w := by
  unfold maxX at h
  split at h
  · exact runsV_ok (w' := w) (by simp [Builtin.max_, Builtin.max2]) ⟨rfl, h⟩
  · exact h.elim
theorem wp1_same {o : Oper} {g : Fr} {k : Value → World → Prop} {s : Sem Value} (h : execOp (ev g) o = (do let v ← s; pure (.value v))) (hr : runsV P s w fun u w' => w' = w ∧ k u w) : wp1 P o g w k := by
  refine wp1_run h ?_
  unfold runsV at *
  split
  · rename_i v w' e
    rw [e] at hr
    obtain ⟨rfl, hk⟩ := hr
    exact hk
  · rename_i hn
    split at hr
    · rename_i v w' e; exact absurd e (hn v w')
    · exact hr

theorem opX_sound {op : Op} {ty : TypeId} {g : Fr} {k : Value → World → Prop} (h : opX P op ty g w k) : wp1 P (bare op ty) g w k := by
  unfold opX at h
  split at h
  · exact h
  · exact h
  · rename_i c a b
    refine wp1_same (s := do pure (if ← asBool (ev g c) then ev g a else ev g b)) (by simp [execOp, bare]) ?_
    unfold pickX at h
    split at h
    · rename_i e; exact runsV_ok (w' := w) (by simp [e, asBool]) ⟨rfl, h⟩
    · rename_i e; exact runsV_ok (w' := w) (by simp [e, asBool]) ⟨rfl, h⟩
    · exact h.elim
  · exact wp1_run (by simp [execOp, bare]) (binX_run h)
  · exact wp1_run (by simp [execOp, bare]) (unX_run h)
  · exact wp1_same (by simp [execOp, bare]) (fldX_run h)
  · exact wp1_same (by simp [execOp, bare]) (idxY_run h)
  · exact wp1_same (by simp [execOp, bare]) (loadX_run h)
  · rename_i t a x
    unfold storeX at h
    unfold wp1
    have : execOp (ev g) (bare (.store t a x) ty) = (do Instr.storeAt t (ev g a) (ev g x); pure .skip) := by simp [execOp, bare]
    rw [this]
    simp only [Sem.run_bind, Sem.run_pure]
    split at h
    · rename_i u w' e; rw [e]; exact h
    · exact h.elim
  · exact wp1_run (by simp [execOp, bare]) (alloc0_run h)
  · exact wp1_run (by simp [execOp, bare]) (alloc_run h)
  · rename_i t ps
    refine wp1_same (s := Instr.build t (pairE g ps.toList).toArray) ?_ (build_run h)
    rw [← pairE_arr]
    simp [execOp, bare]
  · rename_i t n ps
    refine wp1_run (s := Instr.buildSlice t n (pairE g ps.toList).toArray) ?_ (bsl_run h)
    rw [← pairE_arr]
    simp [execOp, bare]
  · rename_i x
    unfold nilX at h
    split at h
    · rename_i a e
      unfold wp1
      have : execOp (ev g) (bare (.nilCheck x) ty) = pure (.value (.pointer (some a))) := by simp [execOp, bare, e]
      rw [this]
      exact h
    · exact h.elim
  · exact wp1_same (by simp [execOp, bare]) (conv_run h)
  · rename_i fn a b
    refine wp1_same (s := pure (.func fn (a.map (ev g)) (b.map (ev g)))) (by simp [execOp, bare, Instr.makeFunc]) ?_
    rw [mapE_arr, mapE_arr]
    exact runsV_ok (w' := w) (by simp) ⟨rfl, h⟩
  · exact wp1_run (by simp [execOp, bare]) (mksl_run h)
  · rename_i t x lo hi mx
    refine wp1_same (s := Instr.sliceAt t (ev g x) (optE g lo) (optE g hi) (optE g mx)) ?_ (slice_run h)
    have e : ∀ o : Option Operand, o.map (ev g) = optE g o := fun o => by cases o <;> rfl
    simp [execOp, bare, e]
  · exact wp1_same (by simp [execOp, bare]) (ext_run h)
  · exact call_run rfl rfl rfl h
  · rename_i b args ts
    unfold biX at h
    split at h
    · rename_i x t ha ht
      refine wp1_same (s := Builtin.len_ #[t] ty #[ev g x]) ?_ (lenX_run h)
      have h1 : args = #[x] := by apply Array.ext'; simpa using ha
      have h2 : ts = #[t] := by apply Array.ext'; simpa using ht
      subst h1; subst h2
      simp [execOp, bare, resolve, invoke, builtin]
    · rename_i x t ha ht
      refine wp1_same (s := Builtin.cap_ #[t] ty #[ev g x]) ?_ (cap_run h)
      have h1 : args = #[x] := by apply Array.ext'; simpa using ha
      have h2 : ts = #[t] := by apply Array.ext'; simpa using ht
      subst h1; subst h2
      simp [execOp, bare, resolve, invoke, builtin]
    · rename_i x t ha ht
      refine wp1_run (s := Builtin.clear_ #[t] ty #[ev g x]) ?_ h
      have h1 : args = #[x] := by apply Array.ext'; simpa using ha
      have h2 : ts = #[t] := by apply Array.ext'; simpa using ht
      subst h1; subst h2
      simp [execOp, bare, resolve, invoke, builtin]
    · rename_i s x t u ha ht
      refine wp1_run (s := Builtin.append_ #[t, u] ty #[ev g s, ev g x]) ?_ h
      have h1 : args = #[s, x] := by apply Array.ext'; simpa using ha
      have h2 : ts = #[t, u] := by apply Array.ext'; simpa using ht
      subst h1; subst h2
      simp [execOp, bare, resolve, invoke, builtin]
    · rename_i s x t u ha ht
      refine wp1_run (s := Builtin.copy_ #[t, u] ty #[ev g s, ev g x]) ?_ h
      have h1 : args = #[s, x] := by apply Array.ext'; simpa using ha
      have h2 : ts = #[t, u] := by apply Array.ext'; simpa using ht
      subst h1; subst h2
      simp [execOp, bare, resolve, invoke, builtin]
    · rename_i _ x y ha
      refine wp1_same (s := Builtin.min_ ts ty #[ev g x, ev g y]) ?_ (min_run h)
      have h1 : args = #[x, y] := by apply Array.ext'; simpa using ha
      subst h1
      simp [execOp, bare, resolve, invoke, builtin]
    · rename_i _ x y ha
      refine wp1_same (s := Builtin.max_ ts ty #[ev g x, ev g y]) ?_ (max_run h)
      have h1 : args = #[x, y] := by apply Array.ext'; simpa using ha
      subst h1
      simp [execOp, bare, resolve, invoke, builtin]
    · exact h
  · exact h
end
end Go.Proofs.YtmcdgepfhpakiaaGreat
/- The engine: regions, statements, loops, functions. -/
namespace Go.Proofs.YtmcdgepfhpakiaaGreat
set_option linter.unusedSimpArgs false
set_option linter.unusedVariables false
open Go
def guardTmp (ops : Array Oper) (j : Nat) : Option Nat := (ops[j]?).bind (·.dst)

def guardOn (ops : Array Oper) (g : Fr) (o : Oper) : Bool := match o.guard with
  | none => true
  | some (j, want) => match guardTmp ops j with
    | none => false
    | some t => decide (boolOf (g t) = some want)

/-- Operations in the order of the text. -/
def wpl (P : Program) (ops : Array Oper) : List Oper → Fr → World → (Fr → World → Prop) → Prop
  | [], g, w, K => K g w
  | o :: rest, g, w, K => if guardOn ops g o then opX P o.op o.type g w fun v w' => wpl P ops rest (upo g o.dst v) w' K else wpl P ops rest (upo g o.dst undef) w K

def liftQ (n : Nat) (Q : Exit → Fr → World → Prop) : Exit → Act → World → Prop := fun e a w => ∃ g, Agr n a g ∧ Q e g w
def onNormal (K : Fr → World → Prop) : Exit → Fr → World → Prop
  | .normal, g, w => K g w
  | _, _, _ => False
def thenX (K : Fr → World → Prop) (Q : Exit → Fr → World → Prop) : Exit → Fr → World → Prop
  | .normal, g, w => K g w
  | e, g, w => Q e g w
def blockX (id : Nat) (Q : Exit → Fr → World → Prop) : Exit → Fr → World → Prop
  | .exit i, g, w => if i = id then Q .normal g w else Q (.exit i) g w
  | e, g, w => Q e g w
/-- A loop, a region whose order is drawn: as the model has them. -/
def loopX (P : Program) (n : Nat) (c : Code) (Q : Exit → Fr → World → Prop) (g : Fr) (w : World) : Prop := ∀ a, Agr n a g → (Code.loop c).wp P (liftQ n Q) a w
def wpd (P : Program) (n id : Nat) (ops : Array Oper) (g : Fr) (w : World) (K : Fr → World → Prop) : Prop := ∀ a, Agr n a g → (Code.region id ops true).wp P (liftQ n (onNormal K)) a w
def otherX (P : Program) (n : Nat) (c : Code) (Q : Exit → Fr → World → Prop) (g : Fr) (w : World) : Prop := ∀ a, Agr n a g → c.wp P (liftQ n Q) a w
def condX (v : Value) (w : World) (A B : World → Prop) : Prop := ∃ b, v = .bool b ∧ (b = true → A w) ∧ (b = false → B w)

def wpx (P : Program) (n : Nat) : Code → (Exit → Fr → World → Prop) → Fr → World → Prop
  | .skip, Q, g, w => Q .normal g w
  | .region _ ops false, Q, g, w => wpl P ops ops.toList g w (Q .normal)
  | .region id ops true, Q, g, w => wpd P n id ops g w (Q .normal)
  | .seq x y, Q, g, w => wpx P n x (thenX (wpx P n y Q) Q) g w
  | .cond c x y, Q, g, w => condX (ev g c) w (fun w => wpx P n x Q g w) (fun w => wpx P n y Q g w)
  | .block id c, Q, g, w => wpx P n c (blockX id Q) g w
  | .loop c, Q, g, w => loopX P n c Q g w
  | .exit id, Q, g, w => Q (.exit id) g w
  | .ret, Q, g, w => Q .ret g w
  | c, Q, g, w => otherX P n c Q g w

/-- Every slot that is written is one of the frame's. -/
def dstOk (n : Nat) (o : Oper) : Bool := match o.dst with
  | some d => decide (d < n)
  | none => true
def dstsOk (n : Nat) : Code → Bool
  | .region _ ops _ => ops.toList.all (dstOk n)
  | .seq x y => dstsOk n x && dstsOk n y
  | .cond _ x y => dstsOk n x && dstsOk n y
  | .block _ c => dstsOk n c
  | .loop c => dstsOk n c
  | _ => true

theorem dstOk_lt {n : Nat} {o : Oper} (h : dstOk n o = true) : ∀ k, o.dst = some k → k < n := by
  intro k hk
  simpa [dstOk, hk] using h

theorem Oper_wp_of_wp1 {P : Program} {o : Oper} {g : Fr} {w : World} {k : Value → World → Prop} {n : Nat} {a : Act} {next : Act → World → Prop} {Q : Exit → Act → World → Prop}
    (hd : dstOk n o = true) (ha : Agr n a g) (h : wp1 P o g w k) (hk : ∀ v w' a', Agr n a' (upo g o.dst v) → k v w' → next a' w') : o.wp P a w next Q := by
  unfold wp1 at h
  unfold Oper.wp
  rw [ha.eval]
  split at h
  · rename_i v w' e; rw [e]; exact hk _ _ _ (ha.put _ _ (dstOk_lt hd)) h
  · rename_i w' e; rw [e]; exact hk _ _ _ (ha.put _ _ (dstOk_lt hd)) h
  · rename_i f args w' e; rw [e]
    refine Calls.mono h fun e' w'' ⟨v, he, hv⟩ => ?_
    subst he
    exact hk _ _ _ (ha.put _ _ (dstOk_lt hd)) hv
  · exact h.elim

theorem wanted_eq {n : Nat} {a : Act} {g : Fr} (ha : Agr n a g) (ops : Array Oper) (hops : ∀ o ∈ ops.toList, dstOk n o = true) (o : Oper) :
    Region.wanted o (yielded ops a.tmps) = guardOn ops g o := by
  unfold Region.wanted guardOn
  cases hg : o.guard with
  | none => rfl
  | some jw =>
    obtain ⟨j, want⟩ := jw
    simp only
    unfold yielded guardTmp
    cases ht : (ops[j]?).bind (·.dst) with
    | none => simp
    | some t =>
      have hlt : t < n := by
        cases hj : ops[j]? with
        | none => simp [hj] at ht
        | some o' =>
          simp [hj] at ht
          exact dstOk_lt (hops o' (by simpa using Array.mem_of_getElem? hj)) t ht
      have hx := ha.2.2 t
      have hs : t < a.tmps.size := by rw [ha.2.1]; exact hlt
      have hgt : a.tmps[t]? = some (g t) := by
        rw [← hx]; simp [Array.getElem?_eq_getElem hs]
      simp only [Option.bind_some, hgt]
      cases g t <;> simp [boolOf] <;> (try rfl)

theorem wpList_of_wpl {P : Program} {ops : Array Oper} {n : Nat} (hops : ∀ o ∈ ops.toList, dstOk n o = true) {Q : Exit → Act → World → Prop} :
    ∀ (l : List Oper) (g : Fr) (w : World) (a : Act) (K : Fr → World → Prop), (∀ o ∈ l, dstOk n o = true) → Agr n a g → wpl P ops l g w K → (∀ a' g' w', Agr n a' g' → K g' w' → Q .normal a' w') → wpList P ops Q l a w := by
  intro l
  induction l with
  | nil => intro g w a K _ ha h hQ; exact hQ _ _ _ ha h
  | cons o rest ih =>
    intro g w a K hl ha h hQ
    have ho := hl o (List.mem_cons_self ..)
    have hr : ∀ o' ∈ rest, dstOk n o' = true := fun o' hm => hl o' (List.mem_cons_of_mem _ hm)
    unfold wpl at h
    unfold wpList
    rw [wanted_eq ha ops hops o]
    split at h
    · rename_i hb; rw [if_pos hb]; exact .inl (Oper_wp_of_wp1 ho ha (opX_sound h) fun v w' a' ha' hk => ih _ _ _ _ hr ha' hk hQ)
    · rename_i hb; rw [if_neg hb]; exact ih _ _ _ _ hr (ha.put _ _ (dstOk_lt ho)) h hQ

theorem wpx_sound {P : Program} {n : Nat} : ∀ (c : Code) (Q : Exit → Fr → World → Prop) (g : Fr) (w : World) (a : Act), dstsOk n c = true → Agr n a g → wpx P n c Q g w → c.wp P (liftQ n Q) a w := by
  intro c
  induction c with
  | skip => intro Q g w a _ ha h; exact wp_skip ⟨g, ha, h⟩
  | region id ops draw =>
    intro Q g w a hd ha h
    simp only [dstsOk, List.all_eq_true] at hd
    cases draw with
    | false =>
      exact wp_region_list (wpList_of_wpl hd _ g w a _ hd ha h fun a' g' w' ha' hk => ⟨g', ha', hk⟩)
    | true =>
      refine Go.wp_mono (h a ha) fun e a' w' ⟨g', ha', hq⟩ => ⟨g', ha', ?_⟩
      cases e <;> first | exact hq | exact hq.elim
  | seq x y ihx ihy =>
    intro Q g w a hd ha h
    simp only [dstsOk, Bool.and_eq_true] at hd
    refine wp_seq (Go.wp_mono (ihx _ g w a hd.1 ha h) fun e a' w' ⟨g', ha', hq⟩ => ?_)
    cases e with
    | normal => exact ihy _ g' w' a' hd.2 ha' hq
    | _ => exact ⟨g', ha', hq⟩
  | cond c x y ihx ihy =>
    intro Q g w a hd ha h
    simp only [dstsOk, Bool.and_eq_true] at hd
    obtain ⟨b, hb, ht, hf⟩ := h
    refine wp_cond_split (by rw [ha.eval]; exact hb) (fun e => ihx _ g w a hd.1 ha (ht e)) (fun e => ihy _ g w a hd.2 ha (hf e))
  | block id c ih =>
    intro Q g w a hd ha h
    refine wp_block (Go.wp_mono (ih _ g w a hd ha h) fun e a' w' ⟨g', ha', hq⟩ => ?_)
    cases e with
    | exit i =>
      simp only [blockX] at hq
      simp only [Exit.inBlock]
      split at hq
      · rename_i e; rw [if_pos e]; exact ⟨g', ha', hq⟩
      · rename_i e; rw [if_neg e]; exact ⟨g', ha', hq⟩
    | _ => exact ⟨g', ha', hq⟩
  | loop c _ => intro Q g w a _ ha h; exact h a ha
  | exit id => intro Q g w a _ ha h; exact wp_exit ⟨g, ha, h⟩
  | ret => intro Q g w a _ ha h; exact wp_ret ⟨g, ha, h⟩
  | rangeFunc f ps as b _ _ => intro Q g w a _ ha h; exact h a ha
  | scope b _ => intro Q g w a _ ha h; exact h a ha
  | label l => intro Q g w a _ ha h; exact h a ha
  | goto l => intro Q g w a _ ha h; exact h a ha
  | refuse s => intro Q g w a _ ha h; exact h a ha

/-- A loop, by a relation and a ghost that falls. -/
theorem loopX_intro {P : Program} {n : Nat} {c : Code} {Q : Exit → Fr → World → Prop} {g : Fr} {w : World} (I : Nat → Fr → World → Prop) (m : Nat) (hd : dstsOk n c = true) (h0 : I m g w)
    (round : ∀ m g w, I m g w → wpx P n c (thenX (fun g' w' => ∃ m', m' < m ∧ I m' g' w') Q) g w) : loopX P n c Q g w := by
  intro a ha
  intro b k cs
  have key : ∀ m g w a, Agr n a g → I m g w → ∃ e a' w', liftQ n Q e a' w' ∧ Arrives P (lone (b.at a (.code c :: .inLoop c :: k)) cs w) b k cs e a' w' := by
    intro m
    induction m using Nat.strongRecOn with
    | _ m ih =>
      intro g w a ha hI
      obtain ⟨e, a₁, w₁, ⟨g₁, ha₁, hq⟩, harr⟩ := wpx_sound c _ g w a hd ha (round m g w hI) b (.inLoop c :: k) cs
      cases e with
      | normal =>
        obtain ⟨m', hlt, hI'⟩ := hq
        obtain ⟨e₂, a₂, w₂, hq₂, harr₂⟩ := ih m' hlt g₁ w₁ a₁ ha₁ hI'
        exact ⟨e₂, a₂, w₂, hq₂, .of_steps (Steps.trans harr (.one step_inLoop)) harr₂⟩
      | exit id => exact ⟨_, a₁, w₁, ⟨g₁, ha₁, hq⟩, .pass (x := .inLoop c) rfl (fun _ _ => .inl (by simp)) harr⟩
      | goto l => exact ⟨_, a₁, w₁, ⟨g₁, ha₁, hq⟩, .pass (x := .inLoop c) rfl (fun _ _ => .inl (by simp)) harr⟩
      | ret => exact ⟨_, a₁, w₁, ⟨g₁, ha₁, hq⟩, .pass (x := .inLoop c) rfl (fun _ _ => .inl (by simp)) harr⟩
      | panic ch => exact ⟨_, a₁, w₁, ⟨g₁, ha₁, hq⟩, .pass (x := .inLoop c) rfl (fun _ _ => .inl (by simp)) harr⟩
      | outgrown => exact ⟨_, a₁, w₁, ⟨g₁, ha₁, hq⟩, .pass (x := .inLoop c) rfl (fun _ _ => .inl (by simp)) harr⟩
  obtain ⟨e, a', w', hq, harr⟩ := key m g w a ha h0
  exact ⟨e, a', w', hq, .of_steps (.one step_loop) harr⟩

/-- The results of a function, read off its frame. -/
def resX (P : Program) (fn : Func) (g : Fr) (w : World) (R : Value → World → Prop) : Prop :=
  ∀ tmps : Array Value, (∀ t, tmps.getD t undef = g t) → ∃ v, (results fn tmps).run P w = .ok v w ∧ R v w
def bodyX (P : Program) (fn : Func) (R : Value → World → Prop) : Exit → Fr → World → Prop
  | .normal, g, w => resX P fn g w R
  | .ret, g, w => resX P fn g w R
  | _, _, _ => False

theorem agr_init (args : Array Value) (n : Nat) (h : args.size ≤ n) : Agr n { tmps := args ++ Array.replicate (n - args.size) undef, defers := [] } (initF args.toList) := by
  refine ⟨rfl, by simp; omega, fun t => ?_⟩
  have key : ∀ (l : List Value) t, initF l t = (l[t]?).getD undef := by
    intro l
    induction l with
    | nil => intro t; simp [initF]
    | cons v l ih => intro t; cases t with
      | zero => simp [initF]
      | succ t => simp [initF, ih]
  rw [key]
  simp only [Array.getD_eq_getD_getElem?, Array.getElem?_append, Array.getElem?_toList]
  split
  · rfl
  · rename_i hge
    rw [Array.getElem?_eq_none (by omega : args.size ≤ t)]
    simp only [Array.getElem?_replicate]
    split <;> rfl

theorem callsV_of_wpx {P : Program} {f : FuncId} {fn : Func} {c : Code} {args : Array Value} {w : World} {R : Value → World → Prop} (hf : P.funcs[f]? = some fn) (hb : fn.body = some c)
    (hd : dstsOk fn.ntmps c = true) (hn : decide (args.size ≤ fn.ntmps) = true) (h : wpx P fn.ntmps c (bodyX P fn R) (initF args.toList) w) : CallsV P f args w R := by
  refine calls_of_wp hf hb (Go.wp_mono (wpx_sound c _ _ w _ hd (agr_init args _ (of_decide_eq_true hn)) h) fun e a' w' ⟨g, ha, hq⟩ => ?_)
  cases e with
  | normal =>
    obtain ⟨v, h1, h2⟩ := hq a'.tmps ha.2.2
    exact ⟨ha.1, v, h1, v, rfl, h2⟩
  | ret =>
    obtain ⟨v, h1, h2⟩ := hq a'.tmps ha.2.2
    exact ⟨ha.1, v, h1, v, rfl, h2⟩
  | _ => exact hq.elim
end Go.Proofs.YtmcdgepfhpakiaaGreat
/- The engine's rules, in one bundle; what the simplifier may look into. -/
namespace Go.Proofs.YtmcdgepfhpakiaaGreat
set_option linter.unusedSimpArgs false
set_option linter.unusedVariables false
open Go

def Now (_ : World) : Prop := True
theorem now (w : World) : Now w := trivial
def guardX (b : Option Nat) (g : Fr) (want : Bool) (w : World) (A B : World → Prop) : Prop := match b with
  | none => B w
  | some t => if boolOf (g t) = some want then A w else B w
def guardV (v : Value) (want : Bool) (w : World) (A B : World → Prop) : Prop := if boolOf v = some want then A w else B w
def gOn (b : Option Nat) (g : Fr) (want : Bool) : Bool := match b with
  | none => false
  | some t => decide (boolOf (g t) = some want)
@[congr] theorem c_up {g : Fr} {d t t' : Nat} {v : Value} (h : t = t') : up g d v t = up g d v t' := by rw [h]
def fillY (pl : List (Nat × Nat)) (o : Option (Nat × Nat)) (z : List Value) (v : Value) (rest : List (Nat × Value)) (w : World) (f : List Value → World → Prop) : Prop := match o with
  | some (off, sz) => needX ((cellsL v).length = sz ∧ off + sz ≤ z.length) w fun w => fillX pl (putAt z off (cellsL v)) rest w f
  | none => False
theorem wpl_cons {P : Program} {ops : Array Oper} {o : Oper} {rest : List Oper} {g : Fr} {w : World} {K : Fr → World → Prop} :
    wpl P ops (o :: rest) g w K = if guardOn ops g o then opX P o.op o.type g w fun v w' => wpl P ops rest (upo g o.dst v) w' K else wpl P ops rest (upo g o.dst undef) w K := rfl
theorem wpl_none {P : Program} {ops : Array Oper} {d : Option Tmp} {op : Op} {ty : TypeId} {pos : String} {af : Array Edge} {rest : List Oper} {g : Fr} {w : World} {K : Fr → World → Prop} :
    wpl P ops (⟨d, op, ty, pos, af, none⟩ :: rest) g w K = opX P op ty g w fun v w' => wpl P ops rest (upo g d v) w' K := by
  rw [wpl_cons]
  simp [guardOn]
theorem wpl_some {P : Program} {ops : Array Oper} {d : Option Tmp} {op : Op} {ty : TypeId} {pos : String} {af : Array Edge} {j : Nat} {want : Bool} {rest : List Oper} {g : Fr} {w : World} {K : Fr → World → Prop} :
    wpl P ops (⟨d, op, ty, pos, af, some (j, want)⟩ :: rest) g w K = guardX (guardTmp ops j) g want w (fun w => opX P op ty g w fun v w' => wpl P ops rest (upo g d v) w' K) (fun w => wpl P ops rest (upo g d undef) w K) := by
  have h : guardOn ops g ⟨d, op, ty, pos, af, some (j, want)⟩ = gOn (guardTmp ops j) g want := rfl
  rw [wpl_cons, h]
  generalize guardTmp ops j = x
  cases x with
  | none => rfl
  | some t => simp [gOn, guardX]
theorem guardV_true {b : Bool} {w : World} {A B : World → Prop} : guardV (.bool b) true w A B = forkX b w A B := by
  cases b <;> simp [guardV, boolOf, forkX]
theorem guardV_false {b : Bool} {w : World} {A B : World → Prop} : guardV (.bool b) false w A B = forkX b w B A := by
  cases b <;> simp [guardV, boolOf, forkX]
theorem forkX_true {w : World} {A B : World → Prop} : forkX true w A B = A w := by simp [forkX]
theorem forkX_false {w : World} {A B : World → Prop} : forkX false w A B = B w := by simp [forkX]
theorem needX_true {w : World} {A : World → Prop} : needX True w A = A w := by simp [needX]
theorem condX_bool {b : Bool} {w : World} {A B : World → Prop} : condX (.bool b) w A B = forkX b w A B := by simp [condX, forkX]
theorem guardTmp_zero {o : Oper} {l : List Oper} : guardTmp (o :: l).toArray 0 = o.dst := by simp [guardTmp]
theorem guardTmp_succ {o : Oper} {l : List Oper} {j : Nat} : guardTmp (o :: l).toArray (j + 1) = guardTmp l.toArray j := by simp [guardTmp]
theorem fork {c : Bool} {w : World} {A B : World → Prop} (h1 : c = true → A w) (h2 : c = false → B w) : forkX c w A B := ⟨h1, h2⟩
theorem need {c : Prop} {w : World} {A : World → Prop} (h1 : c) (h2 : A w) : needX c w A := ⟨h1, h2⟩

/-- The rules that go by the head of the goal. -/
theorem X :
    (∀ (P : Program) ops g w K, Now w → wpl P ops [] g w K = K g w) ∧
    (∀ (P : Program) ops d op ty pos af rest g w K, Now w → wpl P ops (⟨d, op, ty, pos, af, none⟩ :: rest) g w K = opX P op ty g w fun v w' => wpl P ops rest (upo g d v) w' K) ∧
    (∀ (P : Program) ops d op ty pos af j want rest g w K, Now w → wpl P ops (⟨d, op, ty, pos, af, some (j, want)⟩ :: rest) g w K = guardX (guardTmp ops j) g want w (fun w => opX P op ty g w fun v w' => wpl P ops rest (upo g d v) w' K) (fun w => wpl P ops rest (upo g d undef) w K)) ∧
    (∀ (o : Oper) l, guardTmp (o :: l).toArray 0 = o.dst) ∧
    (∀ (o : Oper) l j, guardTmp (o :: l).toArray (j + 1) = guardTmp l.toArray j) ∧
    (∀ (P : Program) (n : Nat) Q g w, Now w → wpx P n .skip Q g w = Q .normal g w) ∧
    (∀ (P : Program) (n : Nat) id (l : List Oper) Q g w, Now w → wpx P n (.region id l.toArray false) Q g w = wpl P l.toArray l g w (Q .normal)) ∧
    (∀ (P : Program) (n : Nat) id ops Q g w, Now w → wpx P n (.region id ops true) Q g w = wpd P n id ops g w (Q .normal)) ∧
    (∀ (P : Program) (n : Nat) x y Q g w, Now w → wpx P n (.seq x y) Q g w = wpx P n x (thenX (wpx P n y Q) Q) g w) ∧
    (∀ (P : Program) (n : Nat) c x y Q g w, Now w → wpx P n (.cond c x y) Q g w = condX (ev g c) w (wpx P n x Q g) (wpx P n y Q g)) ∧
    (∀ (P : Program) (n : Nat) id c Q g w, Now w → wpx P n (.block id c) Q g w = wpx P n c (blockX id Q) g w) ∧
    (∀ (P : Program) (n : Nat) c Q g w, Now w → wpx P n (.loop c) Q g w = loopX P n c Q g w) ∧
    (∀ (P : Program) (n : Nat) id Q g w, Now w → wpx P n (.exit id) Q g w = Q (.exit id) g w) ∧
    (∀ (P : Program) (n : Nat) Q g w, Now w → wpx P n .ret Q g w = Q .ret g w) ∧
    (∀ K Q g w, Now w → thenX K Q .normal g w = K g w) ∧
    (∀ K Q g w, Now w → thenX K Q .ret g w = Q .ret g w) ∧
    (∀ K Q i g w, Now w → thenX K Q (.exit i) g w = Q (.exit i) g w) ∧
    (∀ i Q g w, Now w → blockX i Q .normal g w = Q .normal g w) ∧
    (∀ i Q g w, Now w → blockX i Q .ret g w = Q .ret g w) ∧
    (∀ i Q j g w, Now w → blockX i Q (.exit j) g w = if j = i then Q .normal g w else Q (.exit j) g w) := by
  repeat' apply And.intro
  all_goals (intros; first | rfl | exact wpl_none | exact wpl_some | exact guardTmp_zero | exact guardTmp_succ)
theorem Y :
    (∀ (P : Program) x ty g w k, Now w → opX P (.move x) ty g w k = bindV (ev g x) w k) ∧
    (∀ (P : Program) x ty g w k, Now w → opX P (.assign x) ty g w k = bindV (ev g x) w k) ∧
    (∀ (P : Program) c a b ty g w k, Now w → opX P (.pick c a b) ty g w k = pickX (ev g c) (ev g a) (ev g b) w k) ∧
    (∀ (P : Program) op t x y yt ty g w k, Now w → opX P (.binOp op t x y yt) ty g w k = binX P op t x y (ev g x) (ev g y) w k) ∧
    (∀ (P : Program) op t x ty g w k, Now w → opX P (.unOp op t x) ty g w k = unX P op (ev g x) w k) ∧
    (∀ (P : Program) s x i ty g w k, Now w → opX P (.fieldAddr s x i) ty g w k = fldX (fldOf P s i) (ev g x) w k) ∧
    (∀ (P : Program) t x i ty g w k, Now w → opX P (.indexAddr t x i) ty g w k = idxY (arrOf P t) (slOf P t) (ev g x) (ev g i) w k) ∧
    (∀ (P : Program) t x ty g w k, Now w → opX P (.load t x) ty g w k = loadX (tyK P t) w (ev g x) k) ∧
    (∀ (P : Program) t a x ty g w k, Now w → opX P (.store t a x) ty g w k = storeX P t (ev g a) (ev g x) w fun w' => k undef w') ∧
    (∀ (P : Program) t ty g w k, Now w → opX P (.alloc t) ty g w k = alloc0X (zeroOf P t) t w k) ∧
    (∀ (P : Program) t x ty g w k, Now w → opX P (.box t x) ty g w k = allocX t (cellsL (ev g x)) w k) ∧
    (∀ (P : Program) t (l : List (Nat × Operand)) ty g w k, Now w → opX P (.build t l.toArray) ty g w k = buildX (bldOf P t) (pairE g l) w k) ∧
    (∀ (P : Program) t m (l : List (Nat × Operand)) ty g w k, Now w → opX P (.buildSlice t m l.toArray) ty g w k = bslX (slOf P t) (zeroElt P t) m (pairE g l) w k) ∧
    (∀ (P : Program) x ty g w k, Now w → opX P (.nilCheck x) ty g w k = nilX (ev g x) w k) ∧
    (∀ (P : Program) s d x ty g w k, Now w → opX P (.convert s d x) ty g w k = convX (intOfT P s) (intOfT P d) (ev g x) w k) ∧
    (∀ (P : Program) fn (a b : List Operand) ty g w k, Now w → opX P (.makeFunc fn a.toArray b.toArray) ty g w k = bindV (.func fn (mapE g a).toArray (mapE g b).toArray) w k) ∧
    (∀ (P : Program) t l c ty g w k, Now w → opX P (.makeSlice t l c) ty g w k = mkslX (slOf P t) (zeroElt P t) (ev g l) (ev g c) w k) ∧
    (∀ (P : Program) t x lo hi mx ty g w k, Now w → opX P (.slice t x lo hi mx) ty g w k = sliceX (slOf P t) (ev g x) (optE g lo) (optE g hi) (optE g mx) w k) ∧
    (∀ (P : Program) x i ty g w k, Now w → opX P (.extract x i) ty g w k = extX (ev g x) i w k) ∧
    (∀ (P : Program) f (args : List Operand) ts ty g w k, Now w → opX P (.call ⟨.value f, args.toArray, ts⟩) ty g w k = callX P (ev g f) (mapE g args) w k) ∧
    (∀ (P : Program) b (args : List Operand) (ts : List TypeId) ty g w k, Now w → opX P (.call ⟨.builtin b, args.toArray, ts.toArray⟩) ty g w k = biX P b ty args ts g w k) ∧
    (∀ (P : Program) x t ty g w k, Now w → biX P .len ty [x] [t] g w k = lenX (slOf P t) (ev g x) w k) ∧
    (∀ (P : Program) x t ty g w k, Now w → biX P .cap ty [x] [t] g w k = capX (slOf P t) (ev g x) w k) ∧
    (∀ (P : Program) x t ty g w k, Now w → biX P .clear ty [x] [t] g w k = clearX P t ty (ev g x) w k) ∧
    (∀ (P : Program) s x t u ty g w k, Now w → biX P .append ty [s, x] [t, u] g w k = appX P t u ty (ev g s) (ev g x) w k) ∧
    (∀ (P : Program) s x t u ty g w k, Now w → biX P .copy ty [s, x] [t, u] g w k = copyX P t u ty (ev g s) (ev g x) w k) ∧
    (∀ (P : Program) x y ts ty g w k, Now w → biX P .min ty [x, y] ts g w k = minX (ev g x) (ev g y) w k) ∧
    (∀ (P : Program) x y ts ty g w k, Now w → biX P .max ty [x, y] ts g w k = maxX (ev g x) (ev g y) w k) ∧
    (∀ k a k' b w f, minX (.int k a) (.int k' b) w f = f (.int k (if b < a then b else a)) w) ∧ (∀ k a k' b w f, maxX (.int k a) (.int k' b) w f = f (.int k (if b > a then b else a)) w) ∧
    (∀ g want w A B t, guardX (some t) g want w A B = guardV (g t) want w A B) ∧
    (∀ g want w A B, guardX none g want w A B = B w) ∧
    (∀ g d v, upo g (some d) v = up g d v) ∧ (∀ g v, upo g none v = g) ∧
    (∀ g t, ev g (.tmp t) = g t) ∧ (∀ g v, ev g (.const v) = v) ∧ (∀ g f, ev g (.func f) = .func (.func f) #[] #[]) ∧ (∀ g m, ev g (.global m) = .pointer (some ⟨m, 0, none⟩)) := by
  repeat' apply And.intro
  all_goals (intros; rfl)
/-- The rules that stand behind the values. -/
theorem V :
    (∀ v w f, Now w → bindV v w f = f v w) ∧
    (∀ b w A B, guardV (.bool b) true w A B = forkX b w A B) ∧ (∀ b w A B, guardV (.bool b) false w A B = forkX b w B A) ∧
    (∀ w A B, forkX true w A B = A w) ∧ (∀ w A B, forkX false w A B = B w) ∧ (∀ w A, needX True w A = A w) ∧ (∀ b w A B, condX (.bool b) w A B = forkX b w A B) ∧
    (∀ a b w f, pickX (.bool true) a b w f = bindV a w f) ∧ (∀ a b w f, pickX (.bool false) a b w f = bindV b w f) ∧
    (∀ (P : Program) t cx cy k a k' b w f, binX P .shl t cx cy (.int k a) (.int k' b) w f = needX (0 ≤ b) w (f (.int k (shlI k a b)))) ∧
    (∀ (P : Program) t cx cy k a k' b w f, binX P .shr t cx cy (.int k a) (.int k' b) w f = needX (0 ≤ b) w (f (.int k (shrI k a b)))) ∧
    (∀ (P : Program) t cx cy k a b w f, binX P .add t cx cy (.int k a) (.int k b) w f = f (.int k (k.wrap (a + b))) w) ∧
    (∀ (P : Program) t cx cy k a b w f, binX P .sub t cx cy (.int k a) (.int k b) w f = f (.int k (k.wrap (a - b))) w) ∧
    (∀ (P : Program) t cx cy k a b w f, binX P .mul t cx cy (.int k a) (.int k b) w f = f (.int k (k.wrap (a * b))) w) ∧
    (∀ (P : Program) t cx cy k a b w f, binX P .quo t cx cy (.int k a) (.int k b) w f = needX (b ≠ 0) w (f (.int k (k.wrap (a.tdiv b))))) ∧
    (∀ (P : Program) t cx cy k a b w f, binX P .rem t cx cy (.int k a) (.int k b) w f = needX (b ≠ 0) w (f (.int k (a.tmod b)))) ∧
    (∀ (P : Program) t cx cy k a b w f, binX P .and t cx cy (.int k a) (.int k b) w f = f (.int k (andI k a b)) w) ∧
    (∀ (P : Program) t cx cy k a b w f, binX P .or t cx cy (.int k a) (.int k b) w f = f (.int k (orI k a b)) w) ∧
    (∀ (P : Program) t cx cy k a b w f, binX P .xor t cx cy (.int k a) (.int k b) w f = f (.int k (xorI k a b)) w) ∧
    (∀ (P : Program) t cx cy k a b w f, binX P .andNot t cx cy (.int k a) (.int k b) w f = f (.int k (andNotI k a b)) w) ∧
    (∀ (P : Program) t cx cy k a b w f, binX P .eql t cx cy (.int k a) (.int k b) w f = f (.bool (a == b)) w) ∧
    (∀ (P : Program) t cx cy k a b w f, binX P .neq t cx cy (.int k a) (.int k b) w f = f (.bool (a != b)) w) ∧
    (∀ (P : Program) t cx cy k a b w f, binX P .lss t cx cy (.int k a) (.int k b) w f = f (.bool (decide (a < b))) w) ∧
    (∀ (P : Program) t cx cy k a b w f, binX P .leq t cx cy (.int k a) (.int k b) w f = f (.bool (decide (a ≤ b))) w) ∧
    (∀ (P : Program) t cx cy k a b w f, binX P .gtr t cx cy (.int k a) (.int k b) w f = f (.bool (decide (b < a))) w) ∧
    (∀ (P : Program) t cx cy k a b w f, binX P .geq t cx cy (.int k a) (.int k b) w f = f (.bool (decide (b ≤ a))) w) ∧
    (∀ (P : Program) t cx cy a b w f, binX P .eql t cx cy (.bool a) (.bool b) w f = needX (isBoolT P t = true) w (f (.bool (a == b)))) ∧
    (∀ (P : Program) t cx cy a b w f, binX P .neq t cx cy (.bool a) (.bool b) w f = needX (isBoolT P t = true) w (f (.bool (a != b)))) ∧
    (∀ (P : Program) b w f, unX P .not (.bool b) w f = f (.bool (!b)) w) ∧ (∀ (P : Program) k a w f, unX P .neg (.int k a) w f = f (.int k (k.wrap (-a))) w) ∧
    (∀ off a w f, fldX (some off) (.pointer (some a)) w f = f (.pointer (some (a.add off))) w) ∧
    (∀ s x i w f, idxY none s x i w f = idxX s x i w f) ∧
    (∀ n sz s ad k i w f, idxY (some (n, sz)) s (.pointer (some ad)) (.int k i) w f = needX (0 ≤ i ∧ i < n) w (f (.pointer (some (ad.add (i.toNat * sz)))))) ∧
    (∀ e sz by_ x k i w f, idxX (some (e, sz, by_)) x (.int k i) w f = needX (SlWf x ∧ 0 ≤ i ∧ i < lenN x) w (f (elemAt x sz i.toNat))) ∧
    (∀ r x w f, lenX (some r) x w f = needX (isSl x) w (f (.int .i64 (lenN x)))) ∧
    (∀ k w v f, loadX (some k) w v f = optX (rdv k w v) w f) ∧
    (∀ v w f, optX (some v) w f = bindV v w f) ∧
    (∀ k w a, rdv k w (.pointer (some a)) = rd k w a) ∧
    (∀ z t w f, alloc0X (some z) t w f = allocX t (cellsL z) w f) ∧
    (∀ (l : List Value) i w f, extX (.tuple l.toArray) i w f = optX l[i]? w f) ∧
    (∀ a w f, nilX (.pointer (some a)) w f = f (.pointer (some a)) w) ∧
    (∀ k j k' m w f, convX (some k) (some j) (.int k' m) w f = f (.int j (j.wrap m)) w) ∧
    (∀ (P : Program) m (a b : List Value) args w k, callX P (.func (.func m) a.toArray b.toArray) args w k = callY (callable P m) P m (a ++ args ++ b).toArray w k) ∧
    (∀ (P : Program) m args w k, callY true P m args w k = CallsV P m args w k) ∧ (∀ (P : Program) m args w k, callY false P m args w k = extnX P m args w k) ∧
    (∀ (P : Program) t cx cy (xs ys : List Value) w f, binX P .eql t cx cy (.agg xs.toArray) (.agg ys.toArray) w f = eqY (eqKs P t) false xs ys w f (runsV P (do eqGuard .eql t cx cy (.agg xs.toArray) (.agg ys.toArray); binOp .eql t (.agg xs.toArray) (.agg ys.toArray)) w f)) ∧
    (∀ (P : Program) t cx cy (xs ys : List Value) w f, binX P .neq t cx cy (.agg xs.toArray) (.agg ys.toArray) w f = eqY (eqKs P t) true xs ys w f (runsV P (do eqGuard .neq t cx cy (.agg xs.toArray) (.agg ys.toArray); binOp .neq t (.agg xs.toArray) (.agg ys.toArray)) w f)) ∧
    (∀ ks neg xs ys w f D, eqY (some ks) neg xs ys w f D = needX (fitsK ks xs ∧ fitsK ks ys) w (f (.bool (eqL xs ys != neg)))) ∧
    (∀ (P : Program) t cx cy x n c w f, binX P .eql t cx cy x (.slice none n c) w f = nilX0 (slOf P t) false x w f) ∧ (∀ (P : Program) t cx cy x n c w f, binX P .neq t cx cy x (.slice none n c) w f = nilX0 (slOf P t) true x w f) ∧
    (∀ r neg x w f, nilX0 (some r) neg x w f = needX (isSl x) w (f (.bool (nilB x != neg)))) ∧
    (∀ r x w f, capX (some r) x w f = needX (isSl x) w (f (.int .i64 (capN x)))) ∧
    (∀ pl z w f, fillX pl z [] w f = f z w) ∧
    (∀ pl z i v r w f, fillX pl z ((i, v) :: r) w f = fillY pl pl[i]? z v r w f) ∧
    (∀ pl off sz z v r w f, fillY pl (some (off, sz)) z v r w f = needX ((cellsL v).length = sz ∧ off + sz ≤ z.length) w fun w => fillX pl (putAt z off (cellsL v)) r w f) ∧
    (∀ pl z ps w f, buildX (some (pl, z)) ps w f = fillX pl z ps w fun cs w => f (.agg cs.toArray) w) ∧
    (∀ e sz by_ z m ps w f, bslX (some (e, sz, by_)) (some z) m ps w f = needX (idxOk ps 0 m sz ∧ m * sz ≤ 16777216 ∧ 0 < sz) w fun w => rowX e (flatP ps) m w f) := by
  repeat' apply And.intro
  all_goals (intros; first | rfl | exact guardV_true | exact guardV_false | exact forkX_true | exact forkX_false | exact needX_true | exact condX_bool | (simp [binX, intX, needX]; done))
/-- Small things on values. -/
theorem U : (∀ (g : Fr) d v t, up g d v t = if t = d then v else g t) ∧ (∀ v l, initF (v :: l) 0 = v) ∧ (∀ v l t, initF (v :: l) (t + 1) = initF l t) ∧
    (∀ g : Fr, mapE g [] = []) ∧ (∀ (g : Fr) x r, mapE g (x :: r) = ev g x :: mapE g r) ∧
    (∀ g : Fr, pairE g [] = []) ∧ (∀ (g : Fr) i x r, pairE g ((i, x) :: r) = (i, ev g x) :: pairE g r) ∧
    (∀ g : Fr, optE g none = none) ∧ (∀ (g : Fr) x, optE g (some x) = some (ev g x)) ∧
    (∀ k n, cellsL (.int k n) = [.int k n]) ∧ (∀ b, cellsL (.bool b) = [.bool b]) ∧ (∀ a, cellsL (.pointer a) = [.pointer a]) ∧ (∀ a n c, cellsL (.slice a n c) = [.slice a n c]) ∧ (∀ l : List Value, cellsL (.agg l.toArray) = l) ∧ (∀ f a b, cellsL (.func f a b) = [.func f a b]) ∧ (cellsL .nilFunc = [.nilFunc]) ∧ (∀ r, cellsL (.map r) = [.map r]) ∧
    (∀ b o s m, Addr.add ⟨b, o, s⟩ (m + 1) = ⟨b, o + (m + 1), none⟩) ∧ (∀ a, Addr.add a 0 = a) ∧
    (∀ w a, rd none w a = w.cell? a) ∧ (fitsK [] [] = True) ∧ (∀ k r k' n s, fitsK (some k :: r) (.int k' n :: s) = (k' = k ∧ fitsK r s)) ∧ (∀ r b s, fitsK (none :: r) (.bool b :: s) = fitsK r s) ∧ (∀ k a r k' b s, eqL (.int k a :: r) (.int k' b :: s) = ((a == b) && eqL r s)) ∧ (∀ a r b s, eqL (.bool a :: r) (.bool b :: s) = ((a == b) && eqL r s)) ∧ (eqL [] [] = true) ∧ (∀ b, (b != false) = b) ∧ (∀ b, (b != true) = !b) ∧
    (∀ n c, nilB (.slice none n c) = true) ∧ (∀ a n c, nilB (.slice (some a) n c) = false) ∧ (∀ a n c, capN (.slice a n c) = c) ∧
    (∀ a n c, lenN (.slice a n c) = n) ∧ (∀ a n c, isSl (.slice a n c) = True) ∧ (∀ a n c, SlWf (.slice (some a) n c) = True) ∧ (∀ c, SlWf (.slice none 0 c) = True) ∧
    (∀ a n c sz i, elemAt (.slice (some a) n c) sz i = .pointer (some (a.add (i * sz)))) := by
  repeat' apply And.intro
  all_goals (intros; first | rfl | (simp [Addr.add]; done) | (simp [SlWf]; done) | (simp [fitsK]; done) | (cases ‹Bool› <;> rfl))

/-- The results. -/
def resL (P : Program) : List ResultVar → Fr → World → (List Value → World → Prop) → Prop
  | [], _, w, f => f [] w
  | .tmp t :: r, g, w, f => bindV (g t) w fun v w => resL P r g w fun vs w => f (v :: vs) w
  | .cell a t :: r, g, w, f => loadX (tyK P t) w (g a) fun v w => resL P r g w fun vs w => f (v :: vs) w
def tupV : List Value → Value
  | [v] => v
  | vs => .tuple vs.toArray
def resY (P : Program) (rs : Array ResultVar) (g : Fr) (w : World) (R : Value → World → Prop) : Prop := resL P rs.toList g w fun vs w => R (tupV vs) w
theorem loadVar_run {P : Program} {w : World} {t : TypeId} {v : Value} {f : Value → World → Prop} (h : loadX (tyK P t) w v f) : ∃ a u, v = .pointer (some a) ∧ (loadVar t a).run P w = .ok u w ∧ f u w := by
  have h2 := loadX_run h
  have ha : ∃ a, v = .pointer (some a) := by
    unfold loadX at h
    split at h
    · cases v with
      | pointer a => cases a with
        | some a => exact ⟨a, rfl⟩
        | none => simp [rdv, optX] at h
      | _ => simp [rdv, optX] at h
    · exact h.elim
  obtain ⟨a, rfl⟩ := ha
  unfold runsV at h2
  simp only [Instr.loadAt, Instr.sureAddr, Sem.run_bind, Sem.run_pure, Result.andThen_ok] at h2
  cases hr : (loadVar t a).run P w with
  | ok u w' => rw [hr] at h2; obtain ⟨hw, hf⟩ := h2; subst hw; exact ⟨a, u, rfl, hr, hf⟩
  | halt x w' => rw [hr] at h2; exact h2.elim
def readR (tmps : Array Value) : ResultVar → Sem Value
  | .tmp t => pure (tmps.getD t undef)
  | .cell a t => do loadVar t (← asAddr (tmps.getD a undef))
theorem results_eq (fn : Func) (tmps : Array Value) : results fn tmps = (do let vs ← (Functor.map List.toArray (fn.results.toList.mapM (readR tmps))); pure (if h : vs.size = 1 then vs[0] else .tuple vs)) := by
  unfold results
  rw [Array.mapM_eq_mapM_toList]
  congr 2
theorem resL_run {P : Program} {g : Fr} {w : World} {tmps : Array Value} (ht : ∀ t, tmps.getD t undef = g t) : ∀ (rs : List ResultVar) (f : List Value → World → Prop), resL P rs g w f →
    ∃ vs, (rs.mapM (readR tmps)).run P w = .ok vs w ∧ f vs w := by
  intro rs
  induction rs with
  | nil => intro f h; exact ⟨[], rfl, h⟩
  | cons r rs ih =>
    intro f h
    cases r with
    | tmp t =>
      obtain ⟨vs, h1, h2⟩ := ih _ h
      refine ⟨g t :: vs, ?_, h2⟩
      rw [List.mapM_cons]
      simp only [readR, ht, Sem.run_bind, Sem.run_pure, Result.andThen_ok]
      rw [h1]
      rfl
    | cell a t =>
      obtain ⟨x, u, hx, hr, hf⟩ := loadVar_run h
      obtain ⟨vs, h1, h2⟩ := ih _ hf
      refine ⟨u :: vs, ?_, h2⟩
      rw [List.mapM_cons]
      simp only [readR, ht, hx, Sem.run_bind, asAddr, Sem.run_pure, Result.andThen_ok, hr]
      rw [h1]
      rfl
theorem resX_of_resY {P : Program} {fn : Func} {g : Fr} {w : World} {R : Value → World → Prop} (h : resY P fn.results g w R) : resX P fn g w R := by
  intro tmps ht
  obtain ⟨vs, h1, h2⟩ := resL_run ht _ _ h
  refine ⟨tupV vs, ?_, h2⟩
  rw [results_eq]
  simp only [Sem.run_bind, Sem.run_map, h1, Result.andThen_ok, Sem.run_pure]
  congr 1
  cases vs with
  | nil => rfl
  | cons x r => cases r <;> simp [tupV]
/-- What a function's end asks. -/
def bodyY (P : Program) (rs : Array ResultVar) (R : Value → World → Prop) : Exit → Fr → World → Prop
  | .normal, g, w => resY P rs g w R
  | .ret, g, w => resY P rs g w R
  | _, _, _ => False
theorem callsV_of {P : Program} {f : FuncId} {fn : Func} {c : Code} {args : Array Value} {w : World} {R : Value → World → Prop} (hf : P.funcs[f]? = some fn) (hb : fn.body = some c)
    (hd : dstsOk fn.ntmps c = true) (hn : decide (args.size ≤ fn.ntmps) = true) (h : wpx P fn.ntmps c (bodyY P fn.results R) (initF args.toList) w) : CallsV P f args w R := by
  refine calls_of_wp hf hb (Go.wp_mono (wpx_sound c _ _ w _ hd (agr_init args _ (of_decide_eq_true hn)) h) fun e a' w' ⟨g, ha, hq⟩ => ?_)
  cases e with
  | normal =>
    obtain ⟨v, h1, h2⟩ := resX_of_resY (fn := fn) hq a'.tmps ha.2.2
    exact ⟨ha.1, v, h1, v, rfl, h2⟩
  | ret =>
    obtain ⟨v, h1, h2⟩ := resX_of_resY (fn := fn) hq a'.tmps ha.2.2
    exact ⟨ha.1, v, h1, v, rfl, h2⟩
  | _ => exact hq.elim
theorem Z : (∀ (P : Program) rs R g w, Now w → bodyY P rs R .normal g w = resY P rs g w R) ∧ (∀ (P : Program) rs R g w, Now w → bodyY P rs R .ret g w = resY P rs g w R) ∧
    (∀ (P : Program) (l : List ResultVar) g w R, Now w → resY P l.toArray g w R = resL P l g w fun vs w => R (tupV vs) w) ∧
    (∀ (P : Program) g w f, Now w → resL P [] g w f = f [] w) ∧ (∀ (P : Program) t r g w f, Now w → resL P (.tmp t :: r) g w f = bindV (g t) w fun v w => resL P r g w fun vs w => f (v :: vs) w) ∧
    (∀ (P : Program) a t r g w f, Now w → resL P (.cell a t :: r) g w f = loadX (tyK P t) w (g a) fun v w => resL P r g w fun vs w => f (v :: vs) w) ∧
    (∀ v, tupV [v] = v) ∧ (tupV [] = .tuple #[]) ∧ (∀ a b r, tupV (a :: b :: r) = .tuple (a :: b :: r).toArray) := by
  repeat' apply And.intro
  all_goals (intros; rfl)
end Go.Proofs.YtmcdgepfhpakiaaGreat
