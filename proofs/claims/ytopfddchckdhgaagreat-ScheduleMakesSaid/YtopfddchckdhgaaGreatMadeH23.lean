
/- What the statements of layer 23 make out of bytes: what is held of the worlds on the way. No program is walked here. -/
import Derived.Test.YtopfddchckdhgaaGreatPureR23
import Derived.Test.YtopfddchckdhgaaGreatRelT
import Derived.Test.YtopfddchckdhgaaGreatRelT
namespace Go.Proofs.YtopfddchckdhgaaGreat
set_option linter.unusedSimpArgs false
set_option linter.unusedVariables false
open Go Go.RowKit
set_option maxRecDepth 100000
set_option linter.unusedSectionVars false
set_option maxHeartbeats 1000000
def b8V (n : Int) : Value := .int .u8 n
def b16V (n : Int) : Value := .int .u16 n
structure RawD where
  kv : Value
  hv : Value
  av : Value
  wv : Value
  pv : Value
  dv : Value
  ks : List Int
  hs : List Int
  os : List Int
  ps : List Int
  ds : List Int
  ws : List (Int × Int × Int × Int)
  t0 : Int
  t1 : Int
  t2 : Int
  t3 : Int
  t4 : Int
  t5 : Int
  t6 : Int
  t7 : Int
  bl : Int
  la : Int
  ea : Int
  fu : Int
def quadV (x : Int × Int × Int × Int) : Value := .agg #[b8V x.1, b8V x.2.1, b8V x.2.2.1, b8V x.2.2.2]
def rawC (r : RawD) : List Value := [r.kv, r.hv, r.av, .int .u8 r.t0, .int .u8 r.t1, .int .u8 r.t2, .int .u8 r.t3, .int .u8 r.t4, .int .u8 r.t5, .int .u8 r.t6, .int .u8 r.t7, r.wv, r.pv, r.dv, .int .u8 r.bl, .int .u8 r.la, .int .u8 r.ea, .int .u8 r.fu]
def b8 (n : Int) : Prop := 0 ≤ n ∧ n ≤ 255
structure RawR (w : World) (B : Nat) (r : RawD) : Prop where
  k : Sl w B none 1 r.kv (r.ks.map b8V)
  kb : ∀ x ∈ r.ks, b8 x
  h : Sl w B none 1 r.hv (r.hs.map b8V)
  hb : ∀ x ∈ r.hs, b8 x
  a : Sl w B none 1 r.av (r.os.map b16V)
  ab : ∀ x ∈ r.os, 0 ≤ x ∧ x ≤ 65535
  n : Sl w B (some 4) 4 r.wv (r.ws.map quadV)
  wb : ∀ x ∈ r.ws, b8 x.1 ∧ b8 x.2.1 ∧ b8 x.2.2.1 ∧ b8 x.2.2.2
  p : Sl w B none 1 r.pv (r.ps.map b8V)
  pb : ∀ x ∈ r.ps, b8 x
  d : Sl w B none 1 r.dv (r.ds.map b8V)
  db : ∀ x ∈ r.ds, b8 x
  t : b8 r.t0 ∧ b8 r.t1 ∧ b8 r.t2 ∧ b8 r.t3 ∧ b8 r.t4 ∧ b8 r.t5 ∧ b8 r.t6 ∧ b8 r.t7
  e : b8 r.bl ∧ b8 r.la ∧ b8 r.ea ∧ b8 r.fu
def windowC (x : WindowD) : List Value := [.int .u8 x.domain, intV x.index, intV x.frm, intV x.til]
def areaC (x : AreaD) : List Value := [.int .u8 x.domain, intV x.index]
def zSite : List Value := [.slice none 0 0, .slice none 0 0, .slice none 0 0, .slice none 0 0, .int .i64 0, .slice none 0 0, .slice none 0 0]
def zPlan : List Value := [.slice none 0 0, .slice none 0 0]
def zTerms : List Value := [.slice none 0 0, .slice none 0 0, .int .i64 0, .slice none 0 0, .slice none 0 0, .slice none 0 0, .int .i64 0, .int .i64 0]
/-- A row of one's own that a drawn region lets grow: it lies in its old block or in a new one; a block that stands in for it stays. -/
structure MoA (w : World) (W B e sz g d T : Nat) (z : List Value) (v : Value) (cs : List (List Value)) : Prop where
  own : Own w B e sz v cs
  blk : ∀ b, v.ownBlock = some b → b = g ∨ W ≤ b
  dum : g = d → Blk w d T z
section
variable {w w' : World} {W B e sz g d T : Nat} {z : List Value} {v : Value} {cs : List (List Value)}
theorem MoA.tb {X : Nat → Prop} (h : MoA w W B e sz g d T z v cs) (hx : TBn X w w') (hX : ∀ b, X b → ¬ b = g ∧ b < W) : MoA w' W B e sz g d T z v cs :=
  ⟨h.own.keep fun b hb => hx.block b (h.own.lt b hb).2 fun hXb => by
    have := hX b hXb
    rcases h.blk b hb with h1 | h1
    · exact this.1 h1
    · omega, h.blk, fun e => (h.dum e).tb hx fun hXd => (hX d hXd).1 e.symm⟩
theorem MoA.app {α : Type} {b cp by_ t : Nat} {s zz : Value} {c : α → List Value} {l : List α} (x : α) (hsl : slOf Tryz.prog t = some (e, sz, by_)) (hz : zeroElt Tryz.prog t = some zz) (hzs : (cellsL zz).length = sz) (hsz : 0 < sz) (hby : by_ ≤ 64)
    (hown : Own w B e sz s (l.map c)) (hg : ∀ b, s.ownBlock = some b → b = g) (hd : d < B) (hz0 : g = d → Blk w d T z) (hb : Blk w b e (c x)) (hl : (c x).length = sz) (h1 : ∀ v ∈ c x, v.oneCell' = true) (hbound : l.length < 1000000000000) (hB : B ≤ w.heap.size) (hW : W ≤ w.heap.size) :
    appX Tryz.prog t t t s (.slice (some ⟨b, 0, none⟩) 1 cp) w fun v' w' => Chg w w' g ∧ MoA w' W B e sz g d T z v' ((l ++ [x]).map c) := by
  refine append_both x hsl hz hzs hsz hby hown hb hl h1 hbound hB ?_ ?_
  · intro v' w' _ hx ho
    exact ⟨(Chg.refl' w g).trans_ext hx, ho.more hB, fun b hb => .inr (Nat.le_trans hW (ho.lt b hb).1), fun e => (hz0 e).ext hx⟩
  · intro g' cp' w' es _ hc ho
    subst es
    have e1 : g' = g := hg g' rfl
    subst e1
    exact ⟨hc, ho, fun b hb => .inl (Option.some.inj hb).symm, fun e2 => by
      have h9 := (hown.lt g' rfl).1
      have h8 : g' = d := e2
      omega⟩
/-- The block of a row of one's own. -/
theorem Own.obj23 (h : Own w B e sz v cs) {c : Nat} (hc : v.ownBlock = some c) : ∃ cur, Blk w c e cur := by
  rcases h.1.2 with ⟨rfl, _⟩ | ⟨g, cap, cur, rfl, _, hgc, _⟩
  · simp [Value.ownBlock] at hc
  · obtain rfl : g = c := Option.some.inj hc
    exact ⟨cur.toList, hgc⟩
theorem Blk.type {c t t' : Nat} {l l' : List Value} (h : Blk w c t l) (h' : Blk w c t' l') : t = t' := by
  unfold Blk at h h'
  rw [h] at h'
  injection h' with h'
  injection h'
theorem mo_block (ho : Own w B e sz v cs) (hd : Blk w d T z) : ∃ g, (v.ownBlock = some g ∨ g = d) ∧ (∀ b, v.ownBlock = some b → b = g) ∧ g < w.heap.size ∧ ((∃ cur, Blk w g e cur) ∨ Blk w g T z) := by
  rcases h : v.ownBlock with _ | g
  · exact ⟨d, .inr rfl, (fun b hb => by cases hb), hd.lt, .inr hd⟩
  · exact ⟨g, .inl rfl, (fun b hb => (Option.some.inj hb).symm), (ho.lt g h).2, .inl (ho.obj23 h)⟩
theorem Own.kept (h : Own w B e sz v cs) (hk : ∀ c cur, v.ownBlock = some c → Blk w c e cur → Blk w' c e cur) : Own w' B e sz v cs :=
  h.keep fun b hb => by
    obtain ⟨cur, hc⟩ := h.obj23 hb
    exact (hk b cur hb hc).trans hc.symm
end
/-- The plan's box and its rows. -/
def MdP (w : World) (B0 b5 k : Nat) : Prop := ∃ (sv av : Value) (vs : List Value) (steps : List StepD) (after : List (List Int)), Blk w b5 33 [sv, av] ∧ Own w B0 71 4 sv (steps.map stepC) ∧ Own w B0 39 1 av (vs.map fun v => [v]) ∧ vs.length = k ∧ steps.length = k ∧ after.length = k ∧ (∀ t ∈ steps, 1 ≤ t.kind ∧ t.kind ≤ 7 ∧ 0 ≤ t.host ∧ t.host ≤ 3) ∧
  ∀ i, i < k → ∃ (f : Nat → Bool) (u : Value), after[i]? = some (((List.range i).filter f).map Int.ofNat) ∧ vs[i]? = some u ∧ Own w B0 3 1 u ((((List.range i).filter f).map Int.ofNat).map intC)
def winOk (y : WindowD) : Prop := (y.domain = 1 ∨ y.domain = 2 ∨ y.domain = 3) ∧ 0 ≤ y.index ∧ y.index ≤ 1 ∧ 0 ≤ y.frm ∧ y.frm < y.til ∧ y.til ≤ 600
def areaOk (y : AreaD) : Prop := (y.domain = 1 ∨ y.domain = 2 ∨ y.domain = 3) ∧ 0 ≤ y.index ∧ y.index ≤ 1
def trmV (wv rv apv : Value) (c7 bn ln : Nat) : List Value := [wv, rv, .int .i64 (bn : Int), .slice none 0 0, .slice (some ⟨c7, 0, none⟩) 8 8, apv, .int .i64 20, .int .i64 ((20 + ln : Nat) : Int)]
/-- The terms' box and its rows. -/
def MdT (w : World) (B0 B7 b6 c7 : Nat) (apv : Value) (bn ln n nw na : Nat) : Prop := ∃ (wv rv : Value) (wl : List WindowD) (al : List AreaD) (tk aps : List Int), Blk w b6 41 (trmV wv rv apv c7 bn ln) ∧ Own w B0 79 4 wv (wl.map windowC) ∧ Own w B0 81 2 rv (al.map areaC) ∧ Blk w c7 3 (tk.map intV) ∧ Own w B7 3 1 apv (aps.map intC) ∧
  wl.length = nw ∧ al.length = na ∧ aps.length = n ∧ takesOk tk ∧ (∀ y ∈ wl, winOk y) ∧ (∀ y ∈ al, areaOk y) ∧ ∀ x ∈ aps, -1 ≤ x ∧ x ≤ 254
/-- Where the boxes lie. -/
structure MdS (w : World) (B0 B7 b1 b2 b3 b4 b5 b6 c7 : Nat) (apv : Value) : Prop where
  h0 : w.heap.size ≤ b1 ∧ w.heap.size ≤ b2 ∧ w.heap.size ≤ b3 ∧ w.heap.size ≤ b4 ∧ w.heap.size ≤ b5 ∧ w.heap.size ≤ b6 ∧ w.heap.size ≤ c7 ∧ w.heap.size ≤ B7
  h1 : b1 < B0 ∧ b2 < B0 ∧ b3 < B0 ∧ b4 < B0 ∧ b5 < B0 ∧ b6 < B0 ∧ c7 < B0
  n35 : ¬ b3 = b5
  n46 : ¬ b4 = b6
  ap : ∀ b, apv.ownBlock = some b → b < B0 ∧ ¬ b = c7
structure MdI (w : World) (B0 B7 b1 b2 b3 b4 b5 b6 c7 : Nat) (apv : Value) (r : RawD) (bn ln n k nw na : Nat) (w' : World) : Prop where
  ext : Ext w w'
  k1 : Blk w' b1 55 (rawC r)
  k2 : Blk w' b2 29 zSite
  k3 : Blk w' b3 33 zPlan
  k4 : Blk w' b4 41 zTerms
  size : B0 ≤ w'.heap.size
  p : MdP w' B0 b5 k
  t : MdT w' B0 B7 b6 c7 apv bn ln n nw na
section
variable {w w' : World} {B0 B7 b1 b2 b3 b4 b5 b6 c7 : Nat} {apv : Value} {r : RawD} {bn ln n k nw na : Nat}
theorem MdP.kept {w' : World} (h : MdP w B0 b5 k) (hk : ∀ c T cs, Blk w c T cs → (T = 33 ∧ c = b5) ∨ T = 71 ∨ T = 39 ∨ (T = 3 ∧ B0 ≤ c) → Blk w' c T cs) : MdP w' B0 b5 k := by
  obtain ⟨sv, av, vs, steps, after, h1, h2, h3, h4, h5, h6, h7, h8⟩ := h
  refine ⟨sv, av, vs, steps, after, hk _ _ _ h1 (.inl ⟨rfl, rfl⟩), h2.kept fun c cur _ hc => hk _ _ _ hc (.inr (.inl rfl)), h3.kept fun c cur _ hc => hk _ _ _ hc (.inr (.inr (.inl rfl))), h4, h5, h6, h7, fun i hi => ?_⟩
  obtain ⟨f, u, e1, e2, e3⟩ := h8 i hi
  exact ⟨f, u, e1, e2, e3.kept fun c cur ho hc => hk _ _ _ hc (.inr (.inr (.inr ⟨rfl, (e3.lt c ho).1⟩)))⟩
theorem MdT.kept {w' : World} (h : MdT w B0 B7 b6 c7 apv bn ln n nw na) (hk : ∀ c T cs, Blk w c T cs → (T = 41 ∧ c = b6) ∨ T = 79 ∨ T = 81 ∨ T = 3 → Blk w' c T cs) : MdT w' B0 B7 b6 c7 apv bn ln n nw na := by
  obtain ⟨wv, rv, wl, al, tk, aps, h1, h2, h3, h4, h5, h6⟩ := h
  exact ⟨wv, rv, wl, al, tk, aps, hk _ _ _ h1 (.inl ⟨rfl, rfl⟩), h2.kept fun c cur _ hc => hk _ _ _ hc (.inr (.inl rfl)), h3.kept fun c cur _ hc => hk _ _ _ hc (.inr (.inr (.inl rfl))), hk _ _ _ h4 (.inr (.inr (.inr rfl))), h5.kept fun c cur _ hc => hk _ _ _ hc (.inr (.inr (.inr rfl))), h6⟩
theorem MdI.ext_ {w'' : World} (h : MdI w B0 B7 b1 b2 b3 b4 b5 b6 c7 apv r bn ln n k nw na w') (hx : Ext w' w'') : MdI w B0 B7 b1 b2 b3 b4 b5 b6 c7 apv r bn ln n k nw na w'' :=
  ⟨h.ext.trans hx, h.k1.ext hx, h.k2.ext hx, h.k3.ext hx, h.k4.ext hx, Nat.le_trans h.size hx.size, h.p.kept fun c T cs hb _ => hb.ext hx, h.t.kept fun c T cs hb _ => hb.ext hx⟩
/-- One more step. -/
theorem MdI.grow {w3 w8 w9 w10 w11 : World} {sv av v1 v2 tv : Value} {vs : List Value} {steps : List StepD} {after : List (List Int)} {g1 g2 : Nat} {t : StepD} {f : Nat → Bool} {Bt : Nat}
    (hS : MdS w B0 B7 b1 b2 b3 b4 b5 b6 c7 apv) (h : MdI w B0 B7 b1 b2 b3 b4 b5 b6 c7 apv r bn ln n k nw na w3)
    (h1 : Blk w3 b5 33 [sv, av]) (h2 : Own w3 B0 71 4 sv (steps.map stepC)) (h3 : Own w3 B0 39 1 av (vs.map fun v => [v])) (h4 : vs.length = k) (h5 : steps.length = k) (h6 : after.length = k) (h7 : ∀ t ∈ steps, 1 ≤ t.kind ∧ t.kind ≤ 7 ∧ 0 ≤ t.host ∧ t.host ≤ 3)
    (h8 : ∀ i, i < k → ∃ (f : Nat → Bool) (u : Value), after[i]? = some (((List.range i).filter f).map Int.ofNat) ∧ vs[i]? = some u ∧ Own w3 B0 3 1 u ((((List.range i).filter f).map Int.ofNat).map intC))
    (hx : Ext w3 w8) (hBt : B0 ≤ Bt) (htv : Own w8 Bt 3 1 tv ((((List.range k).filter f).map Int.ofNat).map intC)) (hT : TBn (fun c => c = g1 ∨ c = g2) w8 w9)
    (m1 : MoA w9 w8.heap.size B0 71 4 g1 b2 29 zSite v1 ((steps ++ [t]).map stepC)) (m2 : MoA w9 w8.heap.size B0 39 1 g2 b3 33 zPlan v2 ((vs ++ [tv]).map fun v => [v]))
    (hg1 : sv.ownBlock = some g1 ∨ g1 = b2) (hg2 : av.ownBlock = some g2 ∨ g2 = b3) (c10 : Chg w9 w10 b5) (c11 : Chg w10 w11 b5) (kb : Blk w11 b5 33 [v1, v2]) (ht : 1 ≤ t.kind ∧ t.kind ≤ 7 ∧ 0 ≤ t.host ∧ t.host ≤ 3) :
    MdI w B0 B7 b1 b2 b3 b4 b5 b6 c7 apv r bn ln n (k + 1) nw na w11 := by
  have hs8 := Nat.le_trans h.size hx.size
  have q1 : (∃ cur, Blk w8 g1 71 cur ∧ B0 ≤ g1) ∨ g1 = b2 := by
    rcases hg1 with e | e
    · obtain ⟨cur, hc⟩ := (h2.ext hx).obj23 e
      exact .inl ⟨cur, hc, (h2.lt _ e).1⟩
    · exact .inr e
  have q2 : (∃ cur, Blk w8 g2 39 cur ∧ B0 ≤ g2) ∨ g2 = b3 := by
    rcases hg2 with e | e
    · obtain ⟨cur, hc⟩ := (h3.ext hx).obj23 e
      exact .inl ⟨cur, hc, (h3.lt _ e).1⟩
    · exact .inr e
  have k28 := h.k2.ext hx
  have k38 := h.k3.ext hx
  have k58 := h1.ext hx
  have key0 : ∀ {c T cs}, Blk w8 c T cs → ¬ T = 71 → ¬ T = 29 → ¬ T = 33 → ¬ T = 39 → Blk w11 c T cs := fun {c T cs} hb n1 n2 n3 n4 => by
    have a1 : ¬ c = g1 := by
      rintro rfl
      rcases q1 with ⟨cur, hc, _⟩ | e
      · exact n1 (hb.type hc)
      · subst e; exact n2 (hb.type k28)
    have a2 : ¬ c = g2 := by
      rintro rfl
      rcases q2 with ⟨cur, hc, _⟩ | e
      · exact n4 (hb.type hc)
      · subst e; exact n3 (hb.type k38)
    have a3 : ¬ c = b5 := by rintro rfl; exact n3 (hb.type k58)
    exact c11.blk (c10.blk (hb.tb hT fun e => e.elim a1 a2) a3) a3
  have key : ∀ {c T cs}, Blk w3 c T cs → ¬ T = 71 → ¬ T = 29 → ¬ T = 33 → ¬ T = 39 → Blk w11 c T cs := fun hb => key0 (hb.ext hx)
  obtain ⟨l1, l2, l3, l4, l5, l6, l7⟩ := hS.h1
  obtain ⟨m_1, m_2, m_3, m_4, m_5, m_6, m_7, m_8⟩ := hS.h0
  have n25 : ¬ b2 = b5 := fun e => by subst e; exact absurd (k28.type k58) (by decide)
  have n23 : ¬ b2 = b3 := fun e => by subst e; exact absurd (k28.type k38) (by decide)
  have n5g1 : ¬ b5 = g1 := fun e => by
    rcases q1 with ⟨cur, hc, hl⟩ | e'
    · omega
    · exact n25 (e'.symm.trans e.symm)
  have n5g2 : ¬ b5 = g2 := fun e => by
    rcases q2 with ⟨cur, hc, hl⟩ | e'
    · omega
    · exact hS.n35 (e'.symm.trans e.symm)
  refine ⟨?_, key h.k1 (by decide) (by decide) (by decide) (by decide), ?_, ?_, key h.k4 (by decide) (by decide) (by decide) (by decide), Nat.le_trans hs8 (Nat.le_trans hT.size (Nat.le_trans c10.size c11.size)), ?_, h.t.kept fun c T cs hb hh => ?_⟩
  · have hx8 := h.ext.trans hx
    have hx9 : Ext w w9 := hx8.trans' ⟨hT.os, hT.tape, hT.output, hT.size, fun c hc => hT.block c (Nat.lt_of_lt_of_le hc hx8.size) fun e => by
      have hB : w.heap.size ≤ g1 := by rcases q1 with ⟨_, _, hl⟩ | rfl <;> omega
      have hB' : w.heap.size ≤ g2 := by rcases q2 with ⟨_, _, hl⟩ | rfl <;> omega
      omega⟩
    have hx10 := hx9.trans' (c10.below m_5 hx9.size)
    exact hx10.trans' (c11.below m_5 hx10.size)
  · refine c11.blk (c10.blk ?_ n25) n25
    by_cases e : g1 = b2
    · exact m1.dum e
    · refine k28.tb hT fun hh => hh.elim (fun e' => e e'.symm) fun e' => ?_
      rcases q2 with ⟨_, _, hl⟩ | e2
      · omega
      · exact n23 (e'.trans e2)
  · refine c11.blk (c10.blk ?_ hS.n35) hS.n35
    by_cases e : g2 = b3
    · exact m2.dum e
    · refine k38.tb hT fun hh => hh.elim (fun e' => ?_) (fun e' => e e'.symm)
      rcases q1 with ⟨_, _, hl⟩ | e1
      · omega
      · exact n23 (e1.symm.trans e'.symm)
  · have hO : ∀ {e sz : Nat} {v : Value} {cs : List (List Value)}, Own w9 B0 e sz v cs → Own w11 B0 e sz v cs := fun ho => (ho.chg c10 fun e => by have := (ho.lt _ e).1; omega).chg c11 fun e => by have := (ho.lt _ e).1; omega
    refine ⟨v1, v2, vs ++ [tv], steps ++ [t], after ++ [((List.range k).filter f).map Int.ofNat], kb, hO m1.own, hO m2.own, by simp [h4], by simp [h5], by simp [h6], fun y hy => ?_, fun i hi => ?_⟩
    · rcases List.mem_append.1 hy with hy | hy
      · exact h7 y hy
      · rw [List.mem_singleton.1 hy]; exact ht
    · have kI : ∀ {B : Nat} {v : Value} {cs : List (List Value)}, Own w8 B 3 1 v cs → Own w11 B 3 1 v cs := fun ho => ho.kept fun c cur _ hc => key0 hc (by decide) (by decide) (by decide) (by decide)
      rcases Nat.lt_or_eq_of_le (Nat.le_of_lt_succ hi) with hi | rfl
      · obtain ⟨f', u, e1, e2, e3⟩ := h8 i hi
        exact ⟨f', u, by rw [List.getElem?_append_left (by omega)]; exact e1, by rw [List.getElem?_append_left (by omega)]; exact e2, kI (e3.ext hx)⟩
      · exact ⟨f, tv, by rw [List.getElem?_append_right (by omega), h6]; simp, by rw [List.getElem?_append_right (by omega), h4]; simp, (kI htv).more hBt⟩
  · refine key hb ?_ ?_ ?_ ?_ <;> (rcases hh with ⟨rfl, _⟩ | rfl | rfl | rfl <;> decide)
/-- One more approval. -/
theorem MdI.app {w3 w4 : World} {wv rv : Value} {wl : List WindowD} {al : List AreaD} {tk aps : List Int} {g i : Nat} {x : Int} (hS : MdS w B0 B7 b1 b2 b3 b4 b5 b6 c7 apv) (h : MdI w B0 B7 b1 b2 b3 b4 b5 b6 c7 apv r bn ln n k nw na w3)
    (h1 : Blk w3 b6 41 (trmV wv rv apv c7 bn ln)) (h2 : Own w3 B0 79 4 wv (wl.map windowC)) (h3 : Own w3 B0 81 2 rv (al.map areaC)) (h4 : Blk w3 c7 3 (tk.map intV)) (h5 : Own w3 B7 3 1 apv (aps.map intC)) (h6 : wl.length = nw ∧ al.length = na ∧ aps.length = n ∧ takesOk tk ∧ (∀ y ∈ wl, winOk y) ∧ (∀ y ∈ al, areaOk y) ∧ ∀ x ∈ aps, -1 ≤ x ∧ x ≤ 254)
    (hg : blockOf apv = some g) (hc : Chg w3 w4 g) (ho : Own w4 B7 3 1 apv ((aps.map intC).set i [intV x])) (hx : -1 ≤ x ∧ x ≤ 254) : MdI w B0 B7 b1 b2 b3 b4 b5 b6 c7 apv r bn ln n k nw na w4 := by
  rw [h5.block] at hg
  obtain ⟨cur, hb⟩ := h5.obj23 hg
  have hap := hS.ap g hg
  have hl := (h5.lt g hg).1
  have hw7 := hS.h0.2.2.2.2.2.2.2
  have key : ∀ {c T cs}, Blk w3 c T cs → ¬ T = 3 → Blk w4 c T cs := fun {c T cs} hk hn => hc.blk hk fun e => by subst e; exact hn (hk.type hb)
  refine ⟨h.ext.trans' (hc.below (Nat.le_trans hw7 hl) h.ext.size), key h.k1 (by decide), key h.k2 (by decide), key h.k3 (by decide), key h.k4 (by decide), Nat.le_trans h.size hc.size, h.p.kept fun c T cs hk hh => ?_, ?_⟩
  · rcases hh with ⟨rfl, _⟩ | rfl | rfl | ⟨rfl, h9⟩
    · exact key hk (by decide)
    · exact key hk (by decide)
    · exact key hk (by decide)
    · exact hc.blk hk (by omega)
  · have ho' : Own w4 B7 3 1 apv ((aps.set i x).map intC) := by
      rw [List.map_set]; exact ho
    exact ⟨wv, rv, wl, al, tk, aps.set i x, key h1 (by decide), h2.kept fun c cur _ hk => key hk (by decide), h3.kept fun c cur _ hk => key hk (by decide), hc.blk h4 (fun e => hap.2 e.symm), ho', h6.1, h6.2.1, by rw [List.length_set]; exact h6.2.2.1, h6.2.2.2.1, h6.2.2.2.2.1, h6.2.2.2.2.2.1, fun y hy => by
      rcases List.mem_or_eq_of_mem_set hy with hy | rfl
      · exact h6.2.2.2.2.2.2 y hy
      · exact hx⟩
theorem takes_set {l : List Int} (h : takesOk l) {i : Nat} {v : Int} (hi : 1 ≤ i) (hv : 1 ≤ v ∧ v ≤ 16) : takesOk (l.set i v) := by
  match l, h with
  | [a, b, c, d, e, f, g, k], h =>
    obtain ⟨h0, h1⟩ := h
    simp only [List.mem_cons, List.not_mem_nil, or_false, forall_eq_or_imp, forall_eq] at h1
    obtain ⟨a1, a2, a3, a4, a5, a6, a7⟩ := h1
    match i, hi with
    | 1, _ => simp only [List.set_cons_succ, List.set_cons_zero, takesOk, List.mem_cons, List.not_mem_nil, or_false, forall_eq_or_imp, forall_eq]; omega
    | 2, _ => simp only [List.set_cons_succ, List.set_cons_zero, takesOk, List.mem_cons, List.not_mem_nil, or_false, forall_eq_or_imp, forall_eq]; omega
    | 3, _ => simp only [List.set_cons_succ, List.set_cons_zero, takesOk, List.mem_cons, List.not_mem_nil, or_false, forall_eq_or_imp, forall_eq]; omega
    | 4, _ => simp only [List.set_cons_succ, List.set_cons_zero, takesOk, List.mem_cons, List.not_mem_nil, or_false, forall_eq_or_imp, forall_eq]; omega
    | 5, _ => simp only [List.set_cons_succ, List.set_cons_zero, takesOk, List.mem_cons, List.not_mem_nil, or_false, forall_eq_or_imp, forall_eq]; omega
    | 6, _ => simp only [List.set_cons_succ, List.set_cons_zero, takesOk, List.mem_cons, List.not_mem_nil, or_false, forall_eq_or_imp, forall_eq]; omega
    | 7, _ => simp only [List.set_cons_succ, List.set_cons_zero, takesOk, List.mem_cons, List.not_mem_nil, or_false, forall_eq_or_imp, forall_eq]; omega
    | j + 8, _ =>
      simp only [List.set_cons_succ, List.set_nil, takesOk, List.mem_cons, List.not_mem_nil, or_false, forall_eq_or_imp, forall_eq]; omega
/-- One more duration. -/
theorem MdI.take {w3 w4 : World} {wv rv : Value} {wl : List WindowD} {al : List AreaD} {tk aps : List Int} {i : Nat} {x : Int} (hS : MdS w B0 B7 b1 b2 b3 b4 b5 b6 c7 apv) (h : MdI w B0 B7 b1 b2 b3 b4 b5 b6 c7 apv r bn ln n k nw na w3)
    (h1 : Blk w3 b6 41 (trmV wv rv apv c7 bn ln)) (h2 : Own w3 B0 79 4 wv (wl.map windowC)) (h3 : Own w3 B0 81 2 rv (al.map areaC)) (h4 : Blk w3 c7 3 (tk.map intV)) (h5 : Own w3 B7 3 1 apv (aps.map intC)) (h6 : wl.length = nw ∧ al.length = na ∧ aps.length = n ∧ takesOk tk ∧ (∀ y ∈ wl, winOk y) ∧ (∀ y ∈ al, areaOk y) ∧ ∀ x ∈ aps, -1 ≤ x ∧ x ≤ 254)
    (hc : Chg w3 w4 c7) (hb : Blk w4 c7 3 ((tk.map intV).set i (intV x))) (hi : 1 ≤ i) (hx : 1 ≤ x ∧ x ≤ 16) : MdI w B0 B7 b1 b2 b3 b4 b5 b6 c7 apv r bn ln n k nw na w4 := by
  have hw7 := hS.h0.2.2.2.2.2.2.1
  have hl := hS.h1.2.2.2.2.2.2
  have key : ∀ {c T cs}, Blk w3 c T cs → ¬ T = 3 → Blk w4 c T cs := fun {c T cs} hk hn => hc.blk hk fun e => by subst e; exact hn (hk.type h4)
  refine ⟨h.ext.trans' (hc.below hw7 h.ext.size), key h.k1 (by decide), key h.k2 (by decide), key h.k3 (by decide), key h.k4 (by decide), Nat.le_trans h.size hc.size, h.p.kept fun c T cs hk hh => ?_, ?_⟩
  · rcases hh with ⟨rfl, _⟩ | rfl | rfl | ⟨rfl, h9⟩
    · exact key hk (by decide)
    · exact key hk (by decide)
    · exact key hk (by decide)
    · exact hc.blk hk (by omega)
  · exact ⟨wv, rv, wl, al, tk.set i x, aps, key h1 (by decide), h2.kept fun c cur _ hk => key hk (by decide), h3.kept fun c cur _ hk => key hk (by decide), by rw [List.map_set]; exact hb, h5.chg hc fun e => (hS.ap _ e).2 rfl, h6.1, h6.2.1, h6.2.2.1, takes_set h6.2.2.2.1 hi hx, h6.2.2.2.2⟩
/-- One more window. -/
theorem MdI.win {w3 w4 w5 : World} {wv rv v' : Value} {wl : List WindowD} {al : List AreaD} {tk aps : List Int} {y : WindowD} (hS : MdS w B0 B7 b1 b2 b3 b4 b5 b6 c7 apv) (h : MdI w B0 B7 b1 b2 b3 b4 b5 b6 c7 apv r bn ln n k nw na w3)
    (h1 : Blk w3 b6 41 (trmV wv rv apv c7 bn ln)) (h2 : Own w3 B0 79 4 wv (wl.map windowC)) (h3 : Own w3 B0 81 2 rv (al.map areaC)) (h4 : Blk w3 c7 3 (tk.map intV)) (h5 : Own w3 B7 3 1 apv (aps.map intC)) (h6 : wl.length = nw ∧ al.length = na ∧ aps.length = n ∧ takesOk tk ∧ (∀ y ∈ wl, winOk y) ∧ (∀ y ∈ al, areaOk y) ∧ ∀ x ∈ aps, -1 ≤ x ∧ x ≤ 254)
    (hT : TBn (fun c => wv.ownBlock = some c) w3 w4) (ho : Own w4 B0 79 4 v' ((wl ++ [y]).map windowC)) (hc : Chg w4 w5 b6) (hb : Blk w5 b6 41 (trmV v' rv apv c7 bn ln)) (hy : winOk y) : MdI w B0 B7 b1 b2 b3 b4 b5 b6 c7 apv r bn ln n k (nw + 1) na w5 := by
  have hl := hS.h1.2.2.2.2.2.1
  have key0 : ∀ {c T cs}, Blk w3 c T cs → ¬ T = 79 → Blk w4 c T cs := fun {c T cs} hk hn => hk.tb hT fun e => by obtain ⟨cur, h9⟩ := h2.obj23 e; exact hn (hk.type h9)
  have k6 := key0 h1 (by decide)
  have key : ∀ {c T cs}, Blk w3 c T cs → ¬ T = 79 → ¬ T = 41 → Blk w5 c T cs := fun {c T cs} hk hn hn' => hc.blk (key0 hk hn) fun e => by subst e; exact hn' (hk.type h1)
  have hx4 : Ext w w4 := h.ext.trans' ⟨hT.os, hT.tape, hT.output, hT.size, fun c hc => hT.block c (Nat.lt_of_lt_of_le hc h.ext.size) fun e => by have := (h2.lt _ e).1; have := hS.h1.1; have := hS.h0.1; omega⟩
  refine ⟨hx4.trans' (hc.below hS.h0.2.2.2.2.2.1 hx4.size), key h.k1 (by decide) (by decide), key h.k2 (by decide) (by decide), key h.k3 (by decide) (by decide), hc.blk (key0 h.k4 (by decide)) hS.n46, Nat.le_trans h.size (Nat.le_trans hT.size hc.size), h.p.kept fun c T cs hk hh => ?_, ?_⟩
  · refine key hk ?_ ?_ <;> (rcases hh with ⟨rfl, _⟩ | rfl | rfl | ⟨rfl, _⟩ <;> decide)
  · exact ⟨v', rv, wl ++ [y], al, tk, aps, hb, ho.chg hc fun e => by have := (ho.lt _ e).1; omega, h3.kept fun c cur _ hk => key hk (by decide) (by decide), key h4 (by decide) (by decide), h5.kept fun c cur _ hk => key hk (by decide) (by decide), by simp [h6.1], h6.2.1, h6.2.2.1, h6.2.2.2.1, fun u hu => by
      rcases List.mem_append.1 hu with hu | hu
      · exact h6.2.2.2.2.1 u hu
      · rw [List.mem_singleton.1 hu]; exact hy, h6.2.2.2.2.2⟩
/-- One more area. -/
theorem MdI.area {w3 w4 w5 : World} {wv rv v' : Value} {wl : List WindowD} {al : List AreaD} {tk aps : List Int} {y : AreaD} (hS : MdS w B0 B7 b1 b2 b3 b4 b5 b6 c7 apv) (h : MdI w B0 B7 b1 b2 b3 b4 b5 b6 c7 apv r bn ln n k nw na w3)
    (h1 : Blk w3 b6 41 (trmV wv rv apv c7 bn ln)) (h2 : Own w3 B0 79 4 wv (wl.map windowC)) (h3 : Own w3 B0 81 2 rv (al.map areaC)) (h4 : Blk w3 c7 3 (tk.map intV)) (h5 : Own w3 B7 3 1 apv (aps.map intC)) (h6 : wl.length = nw ∧ al.length = na ∧ aps.length = n ∧ takesOk tk ∧ (∀ y ∈ wl, winOk y) ∧ (∀ y ∈ al, areaOk y) ∧ ∀ x ∈ aps, -1 ≤ x ∧ x ≤ 254)
    (hT : TBn (fun c => rv.ownBlock = some c) w3 w4) (ho : Own w4 B0 81 2 v' ((al ++ [y]).map areaC)) (hc : Chg w4 w5 b6) (hb : Blk w5 b6 41 (trmV wv v' apv c7 bn ln)) (hy : areaOk y) : MdI w B0 B7 b1 b2 b3 b4 b5 b6 c7 apv r bn ln n k nw (na + 1) w5 := by
  have hl := hS.h1.2.2.2.2.2.1
  have key0 : ∀ {c T cs}, Blk w3 c T cs → ¬ T = 81 → Blk w4 c T cs := fun {c T cs} hk hn => hk.tb hT fun e => by obtain ⟨cur, h9⟩ := h3.obj23 e; exact hn (hk.type h9)
  have k6 := key0 h1 (by decide)
  have key : ∀ {c T cs}, Blk w3 c T cs → ¬ T = 81 → ¬ T = 41 → Blk w5 c T cs := fun {c T cs} hk hn hn' => hc.blk (key0 hk hn) fun e => by subst e; exact hn' (hk.type h1)
  have hx4 : Ext w w4 := h.ext.trans' ⟨hT.os, hT.tape, hT.output, hT.size, fun c hc => hT.block c (Nat.lt_of_lt_of_le hc h.ext.size) fun e => by have := (h3.lt _ e).1; have := hS.h1.1; have := hS.h0.1; omega⟩
  refine ⟨hx4.trans' (hc.below hS.h0.2.2.2.2.2.1 hx4.size), key h.k1 (by decide) (by decide), key h.k2 (by decide) (by decide), key h.k3 (by decide) (by decide), hc.blk (key0 h.k4 (by decide)) hS.n46, Nat.le_trans h.size (Nat.le_trans hT.size hc.size), h.p.kept fun c T cs hk hh => ?_, ?_⟩
  · refine key hk ?_ ?_ <;> (rcases hh with ⟨rfl, _⟩ | rfl | rfl | ⟨rfl, _⟩ <;> decide)
  · exact ⟨wv, v', wl, al ++ [y], tk, aps, hb, h2.kept fun c cur _ hk => key hk (by decide) (by decide), ho.chg hc fun e => by have := (ho.lt _ e).1; omega, key h4 (by decide) (by decide), h5.kept fun c cur _ hk => key hk (by decide) (by decide), h6.1, by simp [h6.2.1], h6.2.2.1, h6.2.2.2.1, h6.2.2.2.2.1, fun u hu => by
      rcases List.mem_append.1 hu with hu | hu
      · exact h6.2.2.2.2.2.1 u hu
      · rw [List.mem_singleton.1 hu]; exact hy, h6.2.2.2.2.2.2⟩
end
/-- A plan of the call's own; terms of the call's own. -/
def PlnV (w : World) (v : Value) (p : PlanD) : Prop := ∃ (sv av : Value) (vs : List Value) (B : Nat), v = .agg #[sv, av] ∧ Own w B 71 4 sv (p.steps.map stepC) ∧ Own w B 39 1 av (vs.map fun v => [v]) ∧ vs.length = p.after.length ∧ ∀ i (h : i < p.after.length), ∃ u, vs[i]? = some u ∧ Own w B 3 1 u (p.after[i].map intC)
def TmsV (w : World) (v : Value) (x : TermsD) : Prop := ∃ (wv rv apv : Value) (c7 B : Nat), v = .agg #[wv, rv, intV x.blast, .slice none 0 0, .slice (some ⟨c7, 0, none⟩) 8 8, apv, intV x.first, intV x.last] ∧ Own w B 79 4 wv (x.windows.map windowC) ∧ Own w B 81 2 rv (x.areas.map areaC) ∧ Blk w c7 3 (x.takes.map intV) ∧ Own w B 3 1 apv (x.approved.map intC) ∧ x.takes.length = 8
section
variable {w w' : World}
theorem PlnV.kept {v : Value} {p : PlanD} (h : PlnV w v p) (hk : ∀ c T cs, Blk w c T cs → T = 71 ∨ T = 39 ∨ T = 3 → Blk w' c T cs) : PlnV w' v p := by
  obtain ⟨sv, av, vs, B, e, h1, h2, h3, h4⟩ := h
  refine ⟨sv, av, vs, B, e, h1.kept fun c cur _ hc => hk _ _ _ hc (.inl rfl), h2.kept fun c cur _ hc => hk _ _ _ hc (.inr (.inl rfl)), h3, fun i hi => ?_⟩
  obtain ⟨u, e1, e2⟩ := h4 i hi
  exact ⟨u, e1, e2.kept fun c cur _ hc => hk _ _ _ hc (.inr (.inr rfl))⟩
theorem PlnV.ext {v : Value} {p : PlanD} (h : PlnV w v p) (hx : Ext w w') : PlnV w' v p := h.kept fun _ _ _ hb _ => hb.ext hx
theorem PlnV.fr {v : Value} {p : PlanD} {b T : Nat} {z : List Value} (h : PlnV w v p) (hz : Blk w b T z) (hc : Chg w w' b) (h1 : T ≠ 71 ∧ T ≠ 39 ∧ T ≠ 3 := by decide) : PlnV w' v p :=
  h.kept fun c T' cs hb hh => hc.blk hb fun e => by
    subst e
    obtain rfl := hb.type hz
    rcases hh with rfl | rfl | rfl
    · exact h1.1 rfl
    · exact h1.2.1 rfl
    · exact h1.2.2 rfl
theorem PlnV.plan {v : Value} {p : PlanD} (h : PlnV w v p) : ∃ sv av vs, v = .agg #[sv, av] ∧ PlanT w w.heap.size sv av vs p := by
  obtain ⟨sv, av, vs, B, e, h1, h2, h3, h4⟩ := h
  refine ⟨sv, av, vs, e, h1.slN (f := stepC), ⟨by simpa using h2.sl1 (f := fun v : Value => v), h3, fun i hi => ?_⟩⟩
  obtain ⟨u, e1, e2⟩ := h4 i hi
  exact ⟨u, e1, e2.sl1 (f := intV)⟩
theorem TmsV.kept {v : Value} {x : TermsD} (h : TmsV w v x) (hk : ∀ c T cs, Blk w c T cs → T = 79 ∨ T = 81 ∨ T = 3 → Blk w' c T cs) : TmsV w' v x := by
  obtain ⟨wv, rv, apv, c7, B, e, h1, h2, h3, h4, h5⟩ := h
  exact ⟨wv, rv, apv, c7, B, e, h1.kept fun c cur _ hc => hk _ _ _ hc (.inl rfl), h2.kept fun c cur _ hc => hk _ _ _ hc (.inr (.inl rfl)), hk _ _ _ h3 (.inr (.inr rfl)), h4.kept fun c cur _ hc => hk _ _ _ hc (.inr (.inr rfl)), h5⟩
theorem TmsV.ext {v : Value} {x : TermsD} (h : TmsV w v x) (hx : Ext w w') : TmsV w' v x := h.kept fun _ _ _ hb _ => hb.ext hx
theorem TmsV.fr {v : Value} {x : TermsD} {b T : Nat} {z : List Value} (h : TmsV w v x) (hz : Blk w b T z) (hc : Chg w w' b) (h1 : T ≠ 79 ∧ T ≠ 81 ∧ T ≠ 3 := by decide) : TmsV w' v x :=
  h.kept fun c T' cs hb hh => hc.blk hb fun e => by
    subst e
    obtain rfl := hb.type hz
    rcases hh with rfl | rfl | rfl
    · exact h1.1 rfl
    · exact h1.2.1 rfl
    · exact h1.2.2 rfl
theorem TmsV.terms {v : Value} {x : TermsD} (h : TmsV w v x) : ∃ q, v = .agg (termsC q x).toArray ∧ TermsT w w.heap.size q x := by
  obtain ⟨wv, rv, apv, c7, B, rfl, h1, h2, h3, h4, h5⟩ := h
  exact ⟨⟨wv, rv, .slice none 0 0, .slice (some ⟨c7, 0, none⟩) 8 8, apv⟩, rfl, h1.slN (f := windowC), h2.slN (f := areaC), row_sl h3 (by rw [List.length_map, h5]) (by rw [List.length_map, h5]; decide), h4.sl1 (f := intV), rfl⟩
/-- What is made, at its end. -/
theorem MdI.fin {B0 B7 b1 b2 b3 b4 b5 b6 c7 : Nat} {apv : Value} {r : RawD} {bn ln n nw na : Nat} {w2 wE : World} {sv av wv rv : Value} {vs : List Value} {steps : List StepD} {after : List (List Int)} {wl : List WindowD} {al : List AreaD} {tk aps : List Int} (hS : MdS w B0 B7 b1 b2 b3 b4 b5 b6 c7 apv) (h : MdI w B0 B7 b1 b2 b3 b4 b5 b6 c7 apv r bn ln n n nw na w2)
    (hp : Blk w2 b5 33 [sv, av] ∧ Own w2 B0 71 4 sv (steps.map stepC) ∧ Own w2 B0 39 1 av (vs.map fun v => [v]) ∧ vs.length = n ∧ steps.length = n ∧ after.length = n ∧ (∀ t ∈ steps, 1 ≤ t.kind ∧ t.kind ≤ 7 ∧ 0 ≤ t.host ∧ t.host ≤ 3) ∧
      ∀ i, i < n → ∃ (f : Nat → Bool) (u : Value), after[i]? = some (((List.range i).filter f).map Int.ofNat) ∧ vs[i]? = some u ∧ Own w2 B0 3 1 u ((((List.range i).filter f).map Int.ofNat).map intC))
    (ht : Blk w2 b6 41 (trmV wv rv apv c7 bn ln) ∧ Own w2 B0 79 4 wv (wl.map windowC) ∧ Own w2 B0 81 2 rv (al.map areaC) ∧ Blk w2 c7 3 (tk.map intV) ∧ Own w2 B7 3 1 apv (aps.map intC) ∧
      wl.length = nw ∧ al.length = na ∧ aps.length = n ∧ takesOk tk ∧ (∀ y ∈ wl, winOk y) ∧ (∀ y ∈ al, areaOk y) ∧ ∀ x ∈ aps, -1 ≤ x ∧ x ≤ 254)
    (hk : ∀ c, c < w2.heap.size → ¬ c = b2 → ¬ c = b3 → ¬ c = b4 → wE.heap[c]? = w2.heap[c]?) (hn : n ≤ 8 ∧ nw ≤ 6 ∧ na ≤ 4 ∧ bn ≤ 4 ∧ ln ≤ 255) :
    ∃ p x, PlnV wE (.agg #[sv, av]) p ∧ TmsV wE (.agg (trmV wv rv apv c7 bn ln).toArray) x ∧ MadeX p x ∧ x.first = 20 ∧ x.last ≤ 275 := by
  obtain ⟨p1, p2, p3, p4, p5, p6, p7, p8⟩ := hp
  obtain ⟨t1, t2, t3, t4, t5, t6, t7, t8, t9, t10, t11, t12⟩ := ht
  have key : ∀ {c T cs}, Blk w2 c T cs → ¬ T = 29 → ¬ T = 33 → ¬ T = 41 → Blk wE c T cs := fun {c T cs} hb n1 n2 n3 => (hk c hb.lt (fun e => by subst e; exact n1 (hb.type h.k2)) (fun e => by subst e; exact n2 (hb.type h.k3)) fun e => by subst e; exact n3 (hb.type h.k4)).trans hb
  have hap : ∀ b, apv.ownBlock = some b → b < B0 := fun b hb => (hS.ap b hb).1
  refine ⟨⟨steps, after⟩, ⟨wl, al, (bn : Int), tk, aps, 20, ((20 + ln : Nat) : Int)⟩, ?_, ?_, ?_, rfl, by show ((20 + ln : Nat) : Int) ≤ 275; omega⟩
  · refine PlnV.kept (w := w2) ⟨sv, av, vs, B0, rfl, p2, p3, by rw [p4]; exact p6.symm, fun i hi => ?_⟩ fun c T cs hb hh => key hb ?_ ?_ ?_
    · obtain ⟨f, u, e1, e2, e3⟩ := p8 i (by rw [← p6]; exact hi)
      refine ⟨u, e2, ?_⟩
      have hi' : i < after.length := hi
      rw [List.getElem?_eq_getElem hi'] at e1
      show Own w2 B0 _ 1 u (after[i].map intC)
      rw [Option.some.inj e1]; exact e3
    all_goals rcases hh with rfl | rfl | rfl <;> decide
  · refine TmsV.kept (w := w2) ⟨wv, rv, apv, c7, min B0 B7, rfl, t2.more (Nat.min_le_left _ _), t3.more (Nat.min_le_left _ _), t4, t5.more (Nat.min_le_right _ _), (takes_len t9).1⟩ fun c T cs hb hh => key hb ?_ ?_ ?_
    all_goals rcases hh with rfl | rfl | rfl <;> decide
  · exact ⟨by show steps.length ≤ 8; omega, p7, by show after.length = steps.length; omega, fun i hi => by
      obtain ⟨f, u, e1, e2, e3⟩ := p8 i (by rw [← p6]; exact hi)
      exact ⟨f, e1⟩, by show (0 : Int) ≤ 20 ∧ (20 : Int) ≤ 20; omega, by show (20 : Int) ≤ ((20 + ln : Nat) : Int) ∧ ((20 + ln : Nat) : Int) ≤ 600; omega, t9, by show aps.length = steps.length; omega, t12, by show wl.length ≤ 6; omega, t10, by show al.length ≤ 4; omega, t11, by show (0 : Int) ≤ (bn : Int) ∧ (bn : Int) ≤ 4; omega⟩
end
end Go.Proofs.YtopfddchckdhgaaGreat
