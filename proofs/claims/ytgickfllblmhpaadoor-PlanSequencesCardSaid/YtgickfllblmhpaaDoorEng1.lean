/- An engine for walking translated code: frames as functions, one rule an operation. Nothing of the program stands here. -/
import Derived.WalkKit
import Derived.Below
import Derived.KernelRfl
namespace Go.Proofs.YtgickfllblmhpaaDoor
set_option linter.unusedSimpArgs false
set_option linter.unusedVariables false
open Go

/-- A frame, as a function from slots to values. -/
abbrev Fr := Nat → Value
def ev (g : Fr) : Operand → Value
  | .tmp t => g t
  | .const v => v
  | .global n => .pointer (some ⟨n, 0, none⟩)
  | .func f => .func (.func f) #[] #[]
def up (g : Fr) (d : Nat) (v : Value) : Fr := fun t => if t = d then v else g t
def upo (g : Fr) (d : Option Nat) (v : Value) : Fr := match d with
  | some d => up g d v
  | none => g
def initF : List Value → Fr
  | [], _ => undef
  | v :: _, 0 => v
  | _ :: l, t + 1 => initF l t

/-- The frame of the machine and the function agree. -/
def Agr (n : Nat) (a : Act) (g : Fr) : Prop := a.defers = [] ∧ a.tmps.size = n ∧ ∀ t, a.tmps.getD t undef = g t

theorem Agr.eval {n : Nat} {a : Act} {g : Fr} (h : Agr n a g) : a.eval = ev g := by
  funext x
  cases x with
  | tmp t => exact h.2.2 t
  | _ => rfl
theorem Agr.put {n : Nat} {a : Act} {g : Fr} (h : Agr n a g) (d : Option Nat) (v : Value) (hd : ∀ k, d = some k → k < n) : Agr n (a.put d v) (upo g d v) := by
  cases d with
  | none => exact h
  | some k =>
    obtain ⟨h1, h2, h3⟩ := h
    have hk : k < a.tmps.size := h2 ▸ hd k rfl
    refine ⟨h1, by simp [Act.put, h2], fun t => ?_⟩
    have := h3 t
    simp only [Act.put, upo, up]
    by_cases e : t = k
    · subst e; simp [hk]
    · rw [if_neg e, ← this]
      simp [Array.getElem?_setIfInBounds_ne (Ne.symm e)]

/-- A call that returns. -/
def CallsV (P : Program) (f : FuncId) (args : Array Value) (w : World) (R : Value → World → Prop) : Prop :=
  Calls P f args w fun e w' => ∃ v, e = .returned v ∧ R v w'
theorem CallsV.mono {P : Program} {f : FuncId} {args : Array Value} {w : World} {R R' : Value → World → Prop} (h : CallsV P f args w R) (hr : ∀ v w', R v w' → R' v w') : CallsV P f args w R' :=
  Calls.mono h fun _ _ ⟨v, he, hv⟩ => ⟨v, he, hr v _ hv⟩

def boolOf : Value → Option Bool
  | .bool b => some b
  | _ => none

/-- One operation, without its guard. -/
def wp1 (P : Program) (o : Oper) (g : Fr) (w : World) (k : Value → World → Prop) : Prop :=
  match (execOp (ev g) o).run P w with
  | .ok (.value v) w' => k v w'
  | .ok .skip w' => k undef w'
  | .ok (.enter f args) w' => CallsV P f args w' k
  | _ => False
theorem wp1_mono {P : Program} {o : Oper} {g : Fr} {w : World} {k k' : Value → World → Prop} (h : wp1 P o g w k) (hk : ∀ v w', k v w' → k' v w') : wp1 P o g w k' := by
  unfold wp1 at *
  split at h
  · exact hk _ _ h
  · exact hk _ _ h
  · exact h.mono hk
  · exact h.elim


/-- The operation's program, run where it stands. -/
def runsV (P : Program) (s : Sem Value) (w : World) (f : Value → World → Prop) : Prop := match s.run P w with
  | .ok v w' => f v w'
  | _ => False
theorem wp1_run {P : Program} {o : Oper} {g : Fr} {w : World} {k : Value → World → Prop} {s : Sem Value} (h : execOp (ev g) o = (do let v ← s; pure (.value v))) (hr : runsV P s w k) : wp1 P o g w k := by
  unfold wp1
  unfold runsV at hr
  rw [h]
  simp only [Sem.run_bind, Sem.run_pure]
  cases hs : s.run P w with
  | ok v w' => rw [hs] at hr; exact hr
  | halt x w' => rw [hs] at hr; exact hr.elim
theorem runsV_ok {P : Program} {s : Sem Value} {w w' : World} {v : Value} {f : Value → World → Prop} (h : s.run P w = .ok v w') (hf : f v w') : runsV P s w f := by
  unfold runsV; rw [h]; exact hf

/-- A value that is reckoned before what follows is looked at; a fork; a need. -/
def bindV (v : Value) (w : World) (f : Value → World → Prop) : Prop := f v w
def forkX (c : Bool) (w : World) (A B : World → Prop) : Prop := (c = true → A w) ∧ (c = false → B w)
def needX (c : Prop) (w : World) (A : World → Prop) : Prop := c ∧ A w

/- what the types' table says -/
def fldOf (P : Program) (s : TypeId) (i : Nat) : Option Nat := match P.underlying s with
  | some (.struct fs) => match fs[i]? with
    | some f => match P.info? f.type with
      | some ti => if ti.size = 0 then none else some f.offset
      | none => none
    | none => none
  | _ => none
/-- An array type: its length, its element's cells. -/
def arrOf (P : Program) (t : TypeId) : Option (Nat × Nat) := match P.underlying t with
  | some (.array n e) => (P.info? e).map fun i => (n, i.size)
  | _ => none
/-- A slice type: its element's type, cells and bytes. -/
def slOf (P : Program) (t : TypeId) : Option (Nat × Nat × Nat) := match P.underlying t with
  | some (.slice e) => (P.info? e).map fun i => (e, i.size, i.bytes)
  | _ => none
/-- none: one cell; some n: a struct or an array of n cells. -/
def tyK (P : Program) (t : TypeId) : Option (Option Nat) := match P.underlying t with
  | some (.struct _) => (P.info? t).map fun i => some i.size
  | some (.array ..) => (P.info? t).map fun i => some i.size
  | some _ => match P.info? t with
    | some i => if i.size = 1 then some none else none
    | none => none
  | none => none
def zeroOf (P : Program) (t : TypeId) : Option Value := (P.info? t).bind (·.zero)
/-- The zero value of a slice type's element. -/
def zeroElt (P : Program) (t : TypeId) : Option Value := match slOf P t with
  | some (e, _, _) => zeroOf P e
  | none => none
def isBoolT (P : Program) (t : TypeId) : Bool := match P.underlying t with
  | some .bool => true
  | _ => false
def intOfT (P : Program) (t : TypeId) : Option IntKind := match P.underlying t with
  | some (.int k) => some k
  | _ => none
/-- The places of a struct's fields, and the cells of its zero value. -/
def bldOf (P : Program) (t : TypeId) : Option (List (Nat × Nat) × List Value) := match P.underlying t, zeroOf P t with
  | some (.struct fs), some z => (fs.toList.mapM fun f => (P.info? f.type).map fun i => (f.offset, i.size)).map fun pl => (pl, z.cells.toList)
  | _, _ => none
def callable (P : Program) (n : Nat) : Bool := match P.funcs[n]? with
  | some fn => !(fn.name == "runtime.NumGoroutine") && !fn.body.isNone
  | none => false

/- values -/
def lenN : Value → Nat
  | .slice _ n _ => n
  | _ => 0
def isSl : Value → Prop
  | .slice _ _ _ => True
  | _ => False
def SlWf : Value → Prop
  | .slice none n _ => n = 0
  | .slice (some _) _ _ => True
  | _ => False
def elemAt (v : Value) (sz i : Nat) : Value := match v with
  | .slice (some a) _ _ => .pointer (some (a.add (i * sz)))
  | _ => undef
def andI (k : IntKind) (a b : Int) : Int := k.wrap ((BitVec.ofInt k.bits a &&& BitVec.ofInt k.bits b).toNat : Int)
def orI (k : IntKind) (a b : Int) : Int := k.wrap ((BitVec.ofInt k.bits a ||| BitVec.ofInt k.bits b).toNat : Int)
def xorI (k : IntKind) (a b : Int) : Int := k.wrap ((BitVec.ofInt k.bits a ^^^ BitVec.ofInt k.bits b).toNat : Int)
def andNotI (k : IntKind) (a b : Int) : Int := k.wrap ((BitVec.ofInt k.bits a &&& ~~~BitVec.ofInt k.bits b).toNat : Int)
def shlI (k : IntKind) (a b : Int) : Int := k.wrap (a * 2 ^ (min b.toNat k.bits))
def shrI (k : IntKind) (a b : Int) : Int := a.fdiv (2 ^ (min b.toNat k.bits))

/- reading -/
def rdN (w : World) (a : Addr) : Nat → Nat → Option (List Value)
  | _, 0 => some []
  | i, n + 1 => match w.cell? (a.add i), rdN w a (i + 1) n with
    | some v, some l => some (v :: l)
    | _, _ => none
def rd (k : Option Nat) (w : World) (a : Addr) : Option Value := match k with
  | none => w.cell? a
  | some n => (rdN w a 0 n).map fun l => .agg l.toArray
def rdv (k : Option Nat) (w : World) (v : Value) : Option Value := match v with
  | .pointer (some a) => rd k w a
  | _ => none

/- the operations -/
def pickX (c a b : Value) (w : World) (f : Value → World → Prop) : Prop := match c with
  | .bool true => bindV a w f
  | .bool false => bindV b w f
  | _ => False
def intX (op : BinOp) (k : IntKind) (a b : Int) (w : World) (f : Value → World → Prop) : Prop := match op with
  | .add => f (.int k (k.wrap (a + b))) w
  | .sub => f (.int k (k.wrap (a - b))) w
  | .mul => f (.int k (k.wrap (a * b))) w
  | .quo => needX (b ≠ 0) w (f (.int k (k.wrap (a.tdiv b))))
  | .rem => needX (b ≠ 0) w (f (.int k (a.tmod b)))
  | .and => f (.int k (andI k a b)) w
  | .or => f (.int k (orI k a b)) w
  | .xor => f (.int k (xorI k a b)) w
  | .andNot => f (.int k (andNotI k a b)) w
  | .eql => f (.bool (a == b)) w
  | .neq => f (.bool (a != b)) w
  | .lss => f (.bool (decide (a < b))) w
  | .leq => f (.bool (decide (a ≤ b))) w
  | .gtr => f (.bool (decide (b < a))) w
  | .geq => f (.bool (decide (b ≤ a))) w
  | _ => False
def binX (P : Program) (op : BinOp) (t : TypeId) (cx cy : Operand) (x y : Value) (w : World) (f : Value → World → Prop) : Prop := match op, x, y with
  | .shl, .int k a, .int _ b => needX (0 ≤ b) w (f (.int k (shlI k a b)))
  | .shr, .int k a, .int _ b => needX (0 ≤ b) w (f (.int k (shrI k a b)))
  | op, .int k a, .int k' b => needX (k = k') w fun w => intX op k a b w f
  | .eql, .bool a, .bool b => needX (isBoolT P t = true) w (f (.bool (a == b)))
  | .neq, .bool a, .bool b => needX (isBoolT P t = true) w (f (.bool (a != b)))
  | op, x, y => runsV P (do eqGuard op t cx cy x y; binOp op t x y) w f
def unX (P : Program) (op : UnOp) (x : Value) (w : World) (f : Value → World → Prop) : Prop := match op, x with
  | .not, .bool b => f (.bool (!b)) w
  | .neg, .int k a => f (.int k (k.wrap (-a))) w
  | op, x => runsV P (Op.unary op x) w f
def fldX (o : Option Nat) (v : Value) (w : World) (f : Value → World → Prop) : Prop := match o, v with
  | some off, .pointer (some a) => f (.pointer (some (a.add off))) w
  | _, _ => False
def optX (o : Option Value) (w : World) (f : Value → World → Prop) : Prop := match o with
  | some v => f v w
  | none => False
def loadX (k : Option (Option Nat)) (w : World) (v : Value) (f : Value → World → Prop) : Prop := match k with
  | some k => optX (rdv k w v) w f
  | none => False
def storeX (P : Program) (t : TypeId) (a v : Value) (w : World) (f : World → Prop) : Prop := match (Instr.storeAt t a v).run P w with
  | .ok _ w' => f w'
  | _ => False
def cellsL : Value → List Value
  | .agg cs => cs.toList
  | v => [v]
def allocX (t : TypeId) (cells : List Value) (w : World) (f : Value → World → Prop) : Prop := f (.pointer (some ⟨w.heap.size, 0, none⟩)) (w.alloc (.cells cells.toArray t))
def rowX (t : TypeId) (cells : List Value) (n : Nat) (w : World) (f : Value → World → Prop) : Prop := f (.slice (some ⟨w.heap.size, 0, none⟩) n n) (w.alloc (.cells cells.toArray t))
def alloc0X (z : Option Value) (t : TypeId) (w : World) (f : Value → World → Prop) : Prop := match z with
  | some z => allocX t (cellsL z) w f
  | none => False
def putAt : List Value → Nat → List Value → List Value
  | z, _, [] => z
  | z, o, c :: cs => putAt (z.set o c) (o + 1) cs
def fillX (pl : List (Nat × Nat)) : List Value → List (Nat × Value) → World → (List Value → World → Prop) → Prop
  | z, [], w, f => f z w
  | z, (i, v) :: rest, w, f => match pl[i]? with
    | some (off, sz) => needX ((cellsL v).length = sz ∧ off + sz ≤ z.length) w fun w => fillX pl (putAt z off (cellsL v)) rest w f
    | none => False
def buildX (b : Option (List (Nat × Nat) × List Value)) (ps : List (Nat × Value)) (w : World) (f : Value → World → Prop) : Prop := match b with
  | some (pl, z) => fillX pl z ps w fun cs w => f (.agg cs.toArray) w
  | none => False
def idxOk : List (Nat × Value) → Nat → Nat → Nat → Prop
  | [], i, n, _ => i = n
  | (j, v) :: r, i, n, sz => j = i ∧ (cellsL v).length = sz ∧ idxOk r (i + 1) n sz
def flatP : List (Nat × Value) → List Value
  | [] => []
  | (_, v) :: r => cellsL v ++ flatP r
def bslX (s : Option (Nat × Nat × Nat)) (z : Option Value) (n : Nat) (ps : List (Nat × Value)) (w : World) (f : Value → World → Prop) : Prop := match s, z with
  | some (e, sz, _), some _ => needX (idxOk ps 0 n sz ∧ n * sz ≤ 16777216 ∧ 0 < sz) w fun w => rowX e (flatP ps) n w f
  | _, _ => False
def zrow (z : List Value) : Nat → List Value
  | 0 => []
  | n + 1 => z ++ zrow z n
def mkslX (s : Option (Nat × Nat × Nat)) (z : Option Value) (l c : Value) (w : World) (f : Value → World → Prop) : Prop := match s, z, l, c with
  | some (e, sz, by_), some z, .int _ l, .int _ c => needX (0 ≤ l ∧ l ≤ c ∧ c < 9223372036854775808 ∧ by_ * c ≤ 281474976710656 ∧ (cellsL z).length = sz ∧ 0 < sz) w fun w => f (.slice (some ⟨w.heap.size, 0, none⟩) l.toNat c.toNat) (w.alloc (.cells (zrow (cellsL z) c.toNat).toArray e))
  | _, _, _, _ => False
def capN : Value → Nat
  | .slice _ _ c => c
  | _ => 0
def cutV (sz : Nat) (v : Value) (l h m : Nat) : Value := match v with
  | .slice a _ _ => .slice (if m = l then a else a.map (·.add (l * sz))) (h - l) (m - l)
  | _ => undef
def sliceX (s : Option (Nat × Nat × Nat)) (x : Value) (lo hi mx : Option Value) (w : World) (f : Value → World → Prop) : Prop := match s, lo, hi, mx with
  | some (_, sz, _), none, none, none => needX (isSl x ∧ lenN x ≤ capN x) w (f (cutV sz x 0 (lenN x) (capN x)))
  | some (_, sz, _), some (.int _ l), none, none => needX (isSl x ∧ 0 ≤ l ∧ l ≤ lenN x ∧ lenN x ≤ capN x) w (f (cutV sz x l.toNat (lenN x) (capN x)))
  | some (_, sz, _), none, some (.int _ h), none => needX (isSl x ∧ 0 ≤ h ∧ h ≤ capN x) w (f (cutV sz x 0 h.toNat (capN x)))
  | some (_, sz, _), some (.int _ l), some (.int _ h), none => needX (isSl x ∧ 0 ≤ l ∧ l ≤ h ∧ h ≤ capN x) w (f (cutV sz x l.toNat h.toNat (capN x)))
  | _, _, _, _ => False
def extX (x : Value) (i : Nat) (w : World) (f : Value → World → Prop) : Prop := match x with
  | .tuple vs => optX vs.toList[i]? w f
  | _ => False
def nilX (x : Value) (w : World) (f : Value → World → Prop) : Prop := match x with
  | .pointer (some a) => f (.pointer (some a)) w
  | _ => False
def convX (s d : Option IntKind) (x : Value) (w : World) (f : Value → World → Prop) : Prop := match s, d, x with
  | some _, some k, .int _ n => f (.int k (k.wrap n)) w
  | _, _, _ => False
def callX (P : Program) (fv : Value) (args : List Value) (w : World) (k : Value → World → Prop) : Prop := match fv with
  | .func (.func n) first cap => needX (callable P n = true) w fun w => CallsV P n (first.toList ++ args ++ cap.toList).toArray w k
  | _ => False
def idxX (s : Option (Nat × Nat × Nat)) (x i : Value) (w : World) (f : Value → World → Prop) : Prop := match s, i with
  | some (_, sz, _), .int _ i => needX (SlWf x ∧ 0 ≤ i ∧ i < lenN x) w (f (elemAt x sz i.toNat))
  | _, _ => False
def idxY (a : Option (Nat × Nat)) (s : Option (Nat × Nat × Nat)) (x i : Value) (w : World) (f : Value → World → Prop) : Prop := match a, x, i with
  | none, x, i => idxX s x i w f
  | some (n, sz), .pointer (some ad), .int _ i => needX (0 ≤ i ∧ i < n) w (f (.pointer (some (ad.add (i.toNat * sz)))))
  | _, _, _ => False
def lenX (s : Option (Nat × Nat × Nat)) (x : Value) (w : World) (f : Value → World → Prop) : Prop := match s with
  | some _ => needX (isSl x) w (f (.int .i64 (lenN x)))
  | none => False
def optE (g : Fr) (o : Option Operand) : Option Value := match o with
  | some x => some (ev g x)
  | none => none
def pairE (g : Fr) : List (Nat × Operand) → List (Nat × Value)
  | [] => []
  | (i, x) :: r => (i, ev g x) :: pairE g r
def mapE (g : Fr) : List Operand → List Value
  | [] => []
  | x :: r => ev g x :: mapE g r
def bare (op : Op) (ty : TypeId) : Oper := ⟨none, op, ty, "", #[], none⟩

def appX (P : Program) (t u ty : TypeId) (s x : Value) (w : World) (k : Value → World → Prop) : Prop := runsV P (Builtin.append_ #[t, u] ty #[s, x]) w k
def copyX (P : Program) (t u ty : TypeId) (s x : Value) (w : World) (k : Value → World → Prop) : Prop := runsV P (Builtin.copy_ #[t, u] ty #[s, x]) w k
def minX (x y : Value) (w : World) (f : Value → World → Prop) : Prop := match x, y with
  | .int k a, .int _ b => f (.int k (if b < a then b else a)) w
  | _, _ => False
def maxX (x y : Value) (w : World) (f : Value → World → Prop) : Prop := match x, y with
  | .int k a, .int _ b => f (.int k (if b > a then b else a)) w
  | _, _ => False
/-- A builtin. -/
def biX (P : Program) (b : Builtin) (ty : TypeId) (args : List Operand) (ts : List TypeId) (g : Fr) (w : World) (k : Value → World → Prop) : Prop := match b, args, ts with
  | .len, [x], [t] => lenX (slOf P t) (ev g x) w k
  | .append, [s, x], [t, u] => appX P t u ty (ev g s) (ev g x) w k
  | .copy, [s, x], [t, u] => copyX P t u ty (ev g s) (ev g x) w k
  | .min, [x, y], _ => minX (ev g x) (ev g y) w k
  | .max, [x, y], _ => maxX (ev g x) (ev g y) w k
  | b, args, ts => wp1 P (bare (.call ⟨.builtin b, args.toArray, ts.toArray⟩) ty) g w k
/-- What one operation asks. -/
def opX (P : Program) (op : Op) (ty : TypeId) (g : Fr) (w : World) (k : Value → World → Prop) : Prop := match op with
  | .move x => bindV (ev g x) w k
  | .assign x => bindV (ev g x) w k
  | .pick c a b => pickX (ev g c) (ev g a) (ev g b) w k
  | .binOp op t x y _ => binX P op t x y (ev g x) (ev g y) w k
  | .unOp op _ x => unX P op (ev g x) w k
  | .fieldAddr s x i => fldX (fldOf P s i) (ev g x) w k
  | .indexAddr t x i => idxY (arrOf P t) (slOf P t) (ev g x) (ev g i) w k
  | .load t x => loadX (tyK P t) w (ev g x) k
  | .store t a x => storeX P t (ev g a) (ev g x) w fun w' => k undef w'
  | .alloc t => alloc0X (zeroOf P t) t w k
  | .box t x => allocX t (cellsL (ev g x)) w k
  | .build t ps => buildX (bldOf P t) (pairE g ps.toList) w k
  | .buildSlice t n ps => bslX (slOf P t) (zeroElt P t) n (pairE g ps.toList) w k
  | .nilCheck x => nilX (ev g x) w k
  | .convert s d x => convX (intOfT P s) (intOfT P d) (ev g x) w k
  | .makeFunc fn a b => bindV (.func fn (mapE g a.toList).toArray (mapE g b.toList).toArray) w k
  | .makeSlice t l c => mkslX (slOf P t) (zeroElt P t) (ev g l) (ev g c) w k
  | .slice t x lo hi mx => sliceX (slOf P t) (ev g x) (optE g lo) (optE g hi) (optE g mx) w k
  | .extract x i => extX (ev g x) i w k
  | .call ⟨.value f, args, _⟩ => callX P (ev g f) (mapE g args.toList) w k
  | .call ⟨.builtin b, args, ts⟩ => biX P b ty args.toList ts.toList g w k
  | op => wp1 P (bare op ty) g w k
end Go.Proofs.YtgickfllblmhpaaDoor
