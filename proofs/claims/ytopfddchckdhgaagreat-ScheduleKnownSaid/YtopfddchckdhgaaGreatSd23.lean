
/- The data of layer 23, plainly, and what schedules are made of. No program is walked here. -/
import Derived.Test.YtopfddchckdhgaaGreatPureA23
import Derived.Test.YtopfddchckdhgaaGreatCnt23
namespace Go.Proofs.YtopfddchckdhgaaGreat
set_option linter.unusedSimpArgs false
set_option linter.unusedVariables false
open Go Go.RowKit
set_option maxRecDepth 100000
set_option linter.unusedSectionVars false
structure WindowD where
  domain : Int
  index : Int
  frm : Int
  til : Int
structure AreaD where
  domain : Int
  index : Int
structure TermsD where
  windows : List WindowD
  areas : List AreaD
  blast : Int
  takes : List Int
  approved : List Int
  first : Int
  last : Int
structure TableD where
  begin_ : List Int
  stop : Int
def windowV (x : WindowD) : Value := .agg #[.int .u8 x.domain, intV x.index, intV x.frm, intV x.til]
def areaV (x : AreaD) : Value := .agg #[.int .u8 x.domain, intV x.index]
def spanV (x : Int × Int) : Value := .agg #[intV x.1, intV x.2]
structure TermsVs where
  w : Value
  a : Value
  c : Value
  t : Value
  p : Value
def termsC (u : TermsVs) (x : TermsD) : List Value := [u.w, u.a, intV x.blast, u.c, u.t, u.p, intV x.first, intV x.last]
/-- Steps, durations, ends. -/
def stepS (p : PlanD) (i : Nat) : StepD := (p.steps[i]?).getD ⟨0, 0, 0, 0⟩
def afterS (p : PlanD) (i : Nat) : List Int := (p.after[i]?).getD []
def takeS (p : PlanD) (x : TermsD) (i : Nat) : Int := (x.takes[(stepS p i).kind.toNat]?).getD 0
def appS (x : TermsD) (i : Nat) : Int := (x.approved[i]?).getD 0
def inA (s : SiteD) (p : PlanD) (i : Nat) (d k : Int) : Bool := domF s d (stepS p i).host == k
def winB (s : SiteD) (p : PlanD) (x : TermsD) (i : Nat) (t : Int) : Bool := x.windows.all (fun w => !inA s p i w.domain w.index) || x.windows.any fun w => inA s p i w.domain w.index && (decide (w.frm ≤ t) && decide (t + takeS p x i ≤ w.til))
def appB (s : SiteD) (p : PlanD) (x : TermsD) (i : Nat) (t : Int) : Bool := (!(appS x i == -1) && decide (appS x i ≤ t)) || !x.areas.any fun a => inA s p i a.domain a.index
/-- A step that takes a host out of service. -/
def outB (p : PlanD) (h : Int) (i : Nat) : Bool := decide (3 ≤ (stepS p i).kind) && (stepS p i).host == h
def spanK (p : PlanD) (x : TermsD) (b : List Int) (h : Int) : Nat → Option (Int × Int)
  | 0 => none
  | k + 1 => if outB p h k = true ∧ ¬ Sch.at_ b k = -1 then (match spanK p x b h k with
      | none => some (Sch.at_ b k, Sch.at_ b k + takeS p x k)
      | some (a, c) => some (min a (Sch.at_ b k), max c (Sch.at_ b k + takeS p x k))) else spanK p x b h k
def openK (p : PlanD) (b : List Int) (h : Int) : Nat → Bool
  | 0 => false
  | k + 1 => openK p b h k || (outB p h k && Sch.at_ b k == -1)
def closeS (o : Bool) (v : Option (Int × Int)) : Option (Int × Int) := v.map fun y => (y.1, if o = true then 10000000 else y.2)
def spanS (p : PlanD) (x : TermsD) (b : List Int) (h : Int) : Option (Int × Int) := closeS (openK p b h p.steps.length) (spanK p x b h p.steps.length)
def inSp (t : Int) : Option (Int × Int) → Bool
  | none => false
  | some (a, c) => decide (a ≤ t) && decide (t < c)
def hostsN (s : SiteD) : List Int := (List.range s.hosts.length).map Int.ofNat
/-- How many hosts are out at a moment. -/
def cntS (s : SiteD) (p : PlanD) (x : TermsD) (b : List Int) (t : Int) : Nat := (hostsN s).countP fun h => inSp t (spanS p x b h)
def fromsS (s : SiteD) (p : PlanD) (x : TermsD) (b : List Int) : List Int := (hostsN s).filterMap fun h => (spanS p x b h).map (·.1)
def tosS (s : SiteD) (p : PlanD) (x : TermsD) (b : List Int) : List Int := (hostsN s).filterMap fun h => (spanS p x b h).map (·.2)
def crowdS (s : SiteD) (p : PlanD) (x : TermsD) (b : List Int) : Option (Int × Int) := if x.blast = 0 then none else (Sch.least (fromsS s p x b) fun t => decide (x.blast < cntS s p x b t)).map fun t => (t, (cntS s p x b t : Int))
/-- What a timetable is made of. -/
def scS (s : SiteD) (p : PlanD) (x : TermsD) : Sch where
  n := p.steps.length
  after i := (afterS p i).map Int.toNat
  tk := takeS p x
  first := x.first
  last := x.last
  rule i t := winB s p x i t && appB s p x i t
  moms b i := x.first :: appS x i :: ((afterS p i).map fun j => Sch.at_ b j.toNat + takeS p x j.toNat) ++ x.windows.map (·.frm) ++ tosS s p x b
  crowd b := (crowdS s p x b).isSome
/- orders -/
def freeR (after : List (List Int)) (done : List Bool) (i : Nat) : Bool := ((after[i]?).getD []).all fun j => done.getD j.toNat false
def passR (after : List (List Int)) (done : List Bool) : Nat → List Bool
  | 0 => done
  | i + 1 => (passR after done i).set i ((passR after done i).getD i false || freeR after (passR after done i) i)
def roundsR (after : List (List Int)) : Nat → List Bool
  | 0 => List.replicate after.length false
  | r + 1 => passR after (roundsR after r) after.length
/-- An ascending row of places before n, without i. -/
def placesB (n i : Int) : List Int → Bool := ascB n i (-1)
def placesAll (n : Nat) : Nat → List (List Int) → Bool
  | _, [] => true
  | i, l :: r => placesB n i l && placesAll n (i + 1) r
def ordB (p : PlanD) : Bool := decide (p.steps.length ≤ 12) && decide (p.after.length = p.steps.length) && placesAll p.steps.length 0 p.after && (roundsR p.after p.after.length).all id
def stepT (s : SiteD) (t : StepD) : Bool := btw t.kind 1 7 && btw t.host 0 ((s.hosts.length : Int) - 1)
def windowT (s : SiteD) (w : WindowD) : Bool := btw w.index 0 (countF s w.domain - 1) && btw w.til 0 1000000 && btw w.frm 0 (w.til - 1)
def areaT (s : SiteD) (a : AreaD) : Bool := btw a.index 0 (countF s a.domain - 1)
/-- Terms that may be. -/
def validT (s : SiteD) (p : PlanD) (x : TermsD) : Bool := siteB s && ordB p && decide (x.takes.length = 8) && decide (x.approved.length = p.steps.length) &&
  (btw x.last 0 1000000 && btw x.first 0 x.last && btw x.blast 0 16) && (decide (x.windows.length ≤ 16) && decide (x.areas.length ≤ 16)) &&
  (p.steps.all (stepT s) && ((x.takes.drop 1).all (fun n => btw n 1 1000) && x.approved.all fun n => btw n (-1) 1000000) && x.windows.all (windowT s) && x.areas.all (areaT s))
/- answers -/
def noT : TableD := ⟨[], 0⟩
def makeS (s : SiteD) (p : PlanD) (x : TermsD) : TableD × Int × Int := if validT s p x = true then
  (match Sch.make (scS s p x) p.steps.length (List.replicate p.steps.length (-1)) with
    | (r, true) => (⟨r, Sch.stop (scS s p x) r⟩, -1, 0)
    | (r, false) => (noT, Sch.stuck (scS s p x) r, 7)) else (noT, -1, 1)
def timeB (p : PlanD) (x : TermsD) (b : List Int) (i : Nat) : Bool := decide (x.first ≤ Sch.at_ b i) && decide (Sch.at_ b i + takeS p x i ≤ x.last)
def orderJ (p : PlanD) (x : TermsD) (b : List Int) (i : Nat) : Option Int := (afterS p i).find? fun j => decide (Sch.at_ b i < Sch.at_ b j.toNat + takeS p x j.toNat)
/-- What the rule of a number says of a step: with which other step it is broken, and whether it holds. -/
def ruleS (s : SiteD) (p : PlanD) (x : TermsD) (b : List Int) (k i : Nat) : Int × Bool := match k with
  | 0 => (0, timeB p x b i)
  | 1 => ((orderJ p x b i).getD 0, (orderJ p x b i).isNone)
  | 2 => (0, winB s p x i (Sch.at_ b i))
  | _ => (0, appB s p x i (Sch.at_ b i))
structure BreachD where
  kind : Int
  a : Int
  b : Int
deriving DecidableEq
def breachC (x : BreachD) : List Value := [.int .u8 x.kind, intV x.a, intV x.b]
def noB : BreachD := ⟨0, 0, 0⟩
def tableT (p : PlanD) (t : TableD) : Bool := decide (t.begin_.length = p.steps.length) && t.begin_.all fun n => btw n 0 1000000
def brokenS (s : SiteD) (p : PlanD) (x : TermsD) (b : List Int) : Option BreachD := (List.range 4).findSome? fun k => (List.range p.steps.length).findSome? fun i => if (ruleS s p x b k i).2 = true then none else some ⟨(k : Int) + 1, i, (ruleS s p x b k i).1⟩
def checkS (s : SiteD) (p : PlanD) (x : TermsD) (t : TableD) : BreachD × Int := if validT s p x = true ∧ tableT p t = true then
  (match brokenS s p x t.begin_ with
    | some y => (y, 13)
    | none => match crowdS s p x t.begin_ with
      | some (a, c) => (⟨5, a, c⟩, 13)
      | none => if t.stop = Sch.stop (scS s p x) t.begin_ then (noB, 0) else (⟨6, 0, 0⟩, 13)) else (noB, 1)
/-- The steps that are done, and begun, at a moment. -/
def bitsS (f : Nat → Bool) : Nat → Nat
  | 0 => 0
  | k + 1 => bitsS f k ||| (if f k = true then 2 ^ k else 0)
def atT (p : PlanD) (x : TermsD) (t : TableD) : Bool := decide (p.steps.length ≤ 12) && decide (t.begin_.length = p.steps.length) && (p.steps.all fun y => decide (y.kind < x.takes.length) && num ((x.takes[y.kind.toNat]?).getD 0)) && t.begin_.all num
def atS (p : PlanD) (x : TermsD) (t : TableD) (now : Int) : Nat × Nat := if atT p x t = true then (bitsS (fun i => decide (Sch.at_ t.begin_ i + takeS p x i ≤ now)) p.steps.length, bitsS (fun i => decide (Sch.at_ t.begin_ i ≤ now)) p.steps.length) else (0, 0)
def sameT (a b : TableD) : Bool := a.stop == b.stop && a.begin_ == b.begin_
/- what valid terms have -/
structure Fit (s : SiteD) (p : PlanD) (x : TermsD) : Prop where
  site : siteB s = true
  n12 : p.steps.length ≤ 12
  len : p.after.length = p.steps.length
  places : ∀ i, i < p.steps.length → ∀ j ∈ afterS p i, 0 ≤ j ∧ j < p.steps.length ∧ ¬ j = i
  alen : ∀ i, i < p.steps.length → (afterS p i).length ≤ 12
  takes : x.takes.length = 8
  appr : x.approved.length = p.steps.length
  last : 0 ≤ x.last ∧ x.last ≤ 1000000
  first : 0 ≤ x.first ∧ x.first ≤ x.last
  blast : 0 ≤ x.blast ∧ x.blast ≤ 16
  wl : x.windows.length ≤ 16
  al : x.areas.length ≤ 16
  kind : ∀ i, i < p.steps.length → 1 ≤ (stepS p i).kind ∧ (stepS p i).kind ≤ 7
  host : ∀ i, i < p.steps.length → 0 ≤ (stepS p i).host ∧ (stepS p i).host < s.hosts.length
  app : ∀ i, i < p.steps.length → -1 ≤ appS x i ∧ appS x i ≤ 1000000
  take : ∀ i, i < p.steps.length → 1 ≤ takeS p x i ∧ takeS p x i ≤ 1000
  win : ∀ w ∈ x.windows, 0 ≤ w.frm ∧ w.frm < w.til ∧ w.til ≤ 1000000
theorem ascB_mem {n i : Int} : ∀ {l : List Int} {a : Int}, ascB n i a l = true → ∀ j ∈ l, a < j ∧ j < n ∧ ¬ j = i
  | [], _, _, j, hj => by cases hj
  | c :: r, a, h, j, hj => by
    simp only [ascB, Bool.and_eq_true, decide_eq_true_eq, Bool.not_eq_true', beq_eq_false_iff_ne, ne_eq] at h
    obtain ⟨⟨⟨h1, h2⟩, h3⟩, h4⟩ := h
    rcases List.mem_cons.1 hj with rfl | hj
    · exact ⟨h1, h2, h3⟩
    · have := ascB_mem h4 j hj
      exact ⟨by omega, this.2⟩
theorem asc_nd {n i : Int} : ∀ {l : List Int} {a : Int}, 0 ≤ a + 1 → ascB n i a l = true → (l.map Int.toNat).Nodup
  | [], _, _, _ => List.nodup_nil
  | c :: r, a, ha, h => by
    have h0 := h
    simp only [ascB, Bool.and_eq_true, decide_eq_true_eq] at h
    rw [List.map_cons]
    refine List.nodup_cons.2 ⟨fun hm => ?_, asc_nd (by omega) h.2⟩
    obtain ⟨y, hy, e⟩ := List.mem_map.1 hm
    have := ascB_mem h.2 y hy
    omega
theorem placesAll_at {n : Nat} : ∀ {l : List (List Int)} {i : Nat}, placesAll n i l = true → ∀ k (hk : k < l.length), placesB n ((i + k : Nat) : Int) l[k] = true
  | [], _, _, k, hk => by cases hk
  | a :: r, i, h, 0, _ => by
    simp only [placesAll, Bool.and_eq_true] at h
    exact h.1
  | a :: r, i, h, k + 1, hk => by
    simp only [placesAll, Bool.and_eq_true] at h
    have := placesAll_at h.2 k (by simpa using hk)
    rw [show i + 1 + k = i + (k + 1) by omega] at this
    exact this
theorem stepS_at {p : PlanD} {i : Nat} (h : i < p.steps.length) : stepS p i = p.steps[i] := by simp [stepS, h]
theorem afterS_at {p : PlanD} {i : Nat} (h : i < p.after.length) : afterS p i = p.after[i] := by simp [afterS, h]
theorem fit_of {s : SiteD} {p : PlanD} {x : TermsD} (h : validT s p x = true) : Fit s p x := by
  simp only [validT, ordB, Bool.and_eq_true, decide_eq_true_eq, btw, List.all_eq_true] at h
  obtain ⟨⟨⟨⟨⟨⟨h1, ⟨⟨h2, h3⟩, h4⟩, h5⟩, h6⟩, h7⟩, ⟨⟨h8, h9⟩, h10⟩⟩, ⟨h11, h12⟩⟩, ⟨⟨⟨h13, h14, h15⟩, h16⟩, h17⟩⟩ := h
  have hst : ∀ i, i < p.steps.length → stepS p i ∈ p.steps := fun i hi => by rw [stepS_at hi]; exact List.getElem_mem hi
  have hkd : ∀ i, i < p.steps.length → 1 ≤ (stepS p i).kind ∧ (stepS p i).kind ≤ 7 := fun i hi => by
    have := h13 _ (hst i hi)
    simp only [stepT, btw, Bool.and_eq_true, decide_eq_true_eq] at this
    exact this.1
  have hpm : ∀ i, i < p.steps.length → ∀ j ∈ afterS p i, 0 ≤ j ∧ j < p.steps.length ∧ ¬ j = i := fun i hi j hj => by
    have := placesAll_at h4 i (by omega)
    rw [Nat.zero_add] at this
    rw [afterS_at (by omega)] at hj
    have := ascB_mem this j hj
    omega
  have hal : ∀ i, i < p.steps.length → (afterS p i).length ≤ 12 := fun i hi => by
    have := placesAll_at h4 i (by omega)
    rw [Nat.zero_add] at this
    have hn := asc_nd (by omega) this
    rw [afterS_at (by omega)]
    have := hn.length_le_of_subset (l₂ := List.range p.steps.length) fun j hj => by
      obtain ⟨a, ha, rfl⟩ := List.mem_map.1 hj
      have := hpm i hi a (by rw [afterS_at (by omega)]; exact ha)
      exact List.mem_range.2 (by omega)
    rw [List.length_map, List.length_range] at this
    omega
  refine ⟨h1, h2, h3, hpm, hal, h6, h7, h8, h9, h10, h11, h12, hkd, fun i hi => ?_, fun i hi => ?_, fun i hi => ?_, fun w hw => ?_⟩
  · have := h13 _ (hst i hi)
    simp only [stepT, btw, Bool.and_eq_true, decide_eq_true_eq] at this
    omega
  · have hi' : i < x.approved.length := by omega
    have := h15 _ (List.getElem_mem hi')
    simp only [appS, hi', List.getElem?_eq_getElem, Option.getD_some]
    exact this
  · have hk := hkd i hi
    have hlt : (stepS p i).kind.toNat < x.takes.length := by omega
    have hm : x.takes[(stepS p i).kind.toNat] ∈ x.takes.drop 1 := by
      have h0 : (stepS p i).kind.toNat - 1 < (x.takes.drop 1).length := by rw [List.length_drop]; omega
      have e : (x.takes.drop 1)[(stepS p i).kind.toNat - 1] = x.takes[(stepS p i).kind.toNat] := by
        rw [List.getElem_drop]
        congr 1
        omega
      rw [← e]
      exact List.getElem_mem h0
    have := h14 _ hm
    simp only [takeS, hlt, List.getElem?_eq_getElem, Option.getD_some]
    exact this
  · have := h16 w hw
    simp only [windowT, btw, Bool.and_eq_true, decide_eq_true_eq] at this
    omega
/-- Begins as far as they are set. -/
structure BegD (p : PlanD) (b : List Int) : Prop where
  len : b.length = p.steps.length
  rng : ∀ t ∈ b, -1 ≤ t ∧ t ≤ 1000000
theorem BegD.at_ {p : PlanD} {b : List Int} (h : BegD p b) {i : Nat} (hi : i < p.steps.length) : -1 ≤ Sch.at_ b i ∧ Sch.at_ b i ≤ 1000000 := by
  have hl : i < b.length := by rw [h.len]; exact hi
  have := h.rng _ (List.getElem_mem hl)
  simpa [Sch.at_, List.getD_eq_getElem?_getD, hl] using this
theorem BegD.set {p : PlanD} {b : List Int} (h : BegD p b) {i : Nat} {t : Int} (ht : -1 ≤ t ∧ t ≤ 1000000) : BegD p (b.set i t) :=
  ⟨by rw [List.length_set]; exact h.len, fun y hy => by
    rcases List.mem_or_eq_of_mem_set hy with hy | rfl
    · exact h.rng y hy
    · exact ht⟩
theorem BegD.new (p : PlanD) : BegD p (List.replicate p.steps.length (-1)) := ⟨List.length_replicate, fun t ht => by rw [(List.mem_replicate.1 ht).2]; omega⟩
theorem at_at {b : List Int} {i : Nat} (h : i < b.length) : Sch.at_ b i = b[i] := by simp [Sch.at_, List.getD_eq_getElem?_getD, h]
end Go.Proofs.YtopfddchckdhgaaGreat
