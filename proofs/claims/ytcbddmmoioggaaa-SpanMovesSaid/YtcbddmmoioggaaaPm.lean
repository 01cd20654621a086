/- Where places go: both ways lead to the same set. -/
import Derived.Test.YtcbddmmoioggaaaPc
namespace Go.Proofs.Ytcbddmmoioggaaa.Sp
set_option linter.unusedVariables false
set_option linter.unusedSimpArgs false
/-- An edit. -/
structure Ed where
  p : Int
  d : Int
  s : ByteArray
def Ed.i (e : Ed) : Int := (e.s.size : Int)
/-- None of its numbers is odd. -/
structure Ok (e : Ed) : Prop where
  p : 0 ≤ e.p ∧ e.p ≤ 1048576
  d : 0 ≤ e.d ∧ e.d ≤ 1048576
  i : 0 ≤ e.i ∧ e.i ≤ 1048576
def mv (e : Ed) (x : Int) : Int := if x < e.p then x else if x < e.p + e.d then e.p + e.i else x - e.d + e.i
def sh (e : Ed) (r : Rg) : Rg := ⟨mv e r.f, mv e (r.t - 1) + 1⟩
def jn (e : Ed) (b : Bool) : List Rg := if b = true then [⟨e.p, e.p + e.i⟩] else []
def cutL (e : Ed) (r : Rg) : List Rg := if r.f < e.p ∧ e.p < r.t then [⟨r.f, e.p⟩, sh e ⟨e.p, r.t⟩] else [sh e r]
/-- The places that come of it. -/
def TT (e : Ed) (l : List Rg) (x : Int) : Prop :=
  (x < e.p ∧ has l x = true) ∨ (e.p + e.i ≤ x ∧ x < top ∧ has l (x - e.i + e.d) = true) ∨ (has l (e.p - 1) = true ∧ has l (e.p + e.d) = true ∧ e.p ≤ x ∧ x < e.p + e.i)
theorem has_pos {l : List Rg} {x : Int} (h : has l x = true) : 0 ≤ x ∧ x < top := by
  obtain ⟨r, hr, h1, h2⟩ := (has_iff l x).1 h
  have := clip_in r.f
  have := clip_in r.t
  omega
theorem inR_in {f t x : Int} (h0 : 0 ≤ f) (h1 : f ≤ top) (h2 : 0 ≤ t) (h3 : t ≤ top) : inR ⟨f, t⟩ x = true ↔ f ≤ x ∧ x < t := by
  simp only [inR]
  rw [clip_id h0 h1, clip_id h2 h3]
  simp
theorem clip_lt {z x : Int} (hz : 0 ≤ z) : x < clip z ↔ x < z ∧ x < top := by unfold clip; unfold top; split <;> (try split) <;> omega
theorem clip_le {z x : Int} (hz : 0 ≤ z) (hx : x < top) : clip z ≤ x ↔ z ≤ x := by unfold clip; unfold top at *; split <;> (try split) <;> omega
theorem jn_iff {e : Ed} (ok : Ok e) (b : Bool) (x : Int) : has (jn e b) x = true ↔ b = true ∧ e.p ≤ x ∧ x < e.p + e.i := by
  have := ok.p
  have := ok.i
  unfold jn
  cases b with
  | false => simp [has]
  | true =>
    rw [if_pos rfl, has_cons, has_nil, Bool.or_false, inR_in (by omega) (by unfold top; omega) (by omega) (by unfold top; omega)]
    simp
/-- A range behind what is taken away goes behind what is put in. -/
theorem sh_behind {e : Ed} (ok : Ok e) {r : Rg} (hr : 0 ≤ r.f ∧ r.f < r.t ∧ r.t ≤ top) (hb : e.p + e.d ≤ r.f) (x : Int) : inR (sh e r) x = true ↔ x < top ∧ r.f ≤ x - e.i + e.d ∧ x - e.i + e.d < r.t := by
  have := ok.p
  have := ok.d
  have := ok.i
  have e1 : mv e r.f = r.f - e.d + e.i := by unfold mv; rw [if_neg (by omega), if_neg (by omega)]
  have e2 : mv e (r.t - 1) + 1 = r.t - e.d + e.i := by unfold mv; rw [if_neg (by omega), if_neg (by omega)]; omega
  unfold sh
  rw [e1, e2]
  simp only [inR, Bool.and_eq_true, decide_eq_true_eq]
  constructor
  · rintro ⟨h1, h2⟩
    obtain ⟨h3, h4⟩ := (clip_lt (by omega)).1 h2
    have h5 := (clip_le (by omega) h4).1 h1
    omega
  · rintro ⟨h1, h2, h3⟩
    exact ⟨(clip_le (by omega) h1).2 (by omega), (clip_lt (by omega)).2 (by omega)⟩
/-- A range ahead stays. -/
theorem sh_ahead {e : Ed} (ok : Ok e) {r : Rg} (hr : 0 ≤ r.f ∧ r.f < r.t ∧ r.t ≤ top) (hb : r.t ≤ e.p) (x : Int) : inR (sh e r) x = true ↔ r.f ≤ x ∧ x < r.t := by
  have e1 : mv e r.f = r.f := by unfold mv; rw [if_pos (by omega)]
  have e2 : mv e (r.t - 1) + 1 = r.t := by unfold mv; rw [if_pos (by omega)]; omega
  unfold sh
  rw [e1, e2]
  exact inR_in hr.1 (by omega) (by omega) hr.2.2
theorem has_map {l : List Rg} {f : Rg → Rg} {x : Int} : has (l.map f) x = true ↔ ∃ r ∈ l, inR (f r) x = true := by
  unfold has
  simp
theorem has_flat {l : List Rg} {f : Rg → List Rg} {x : Int} : has (l.flatMap f) x = true ↔ ∃ r ∈ l, has (f r) x = true := by
  unfold has
  simp
/-- THE PROGRAM's WAY. -/
theorem prog_moves {e : Ed} (ok : Ok e) {l R1 R2 : List Rg} {b : Bool} (h1 : ∀ x, has R1 x = (has l x && has [⟨0, e.p⟩] x)) (h2 : ∀ x, has R2 x = (has l x && !has [⟨0, e.p + e.d⟩] x)) (f2 : Form R2) (hb : b = (has l (e.p - 1) && has l (e.p + e.d))) (x : Int) :
    (has (R1 ++ jn e b) x || has (R2.map (sh e)) x) = true ↔ TT e l x := by
  have hp := ok.p
  have hd := ok.d
  have hi := ok.i
  have k1 : ∀ y, has R1 y = true ↔ has l y = true ∧ y < e.p := fun y => by
    rw [h1 y, has_cons, has_nil, Bool.or_false, Bool.and_eq_true, inR_in (by omega) (by unfold top; omega) (by omega) (by unfold top; omega)]
    exact ⟨fun h => ⟨h.1, h.2.2⟩, fun h => ⟨h.1, (has_pos h.1).1, h.2⟩⟩
  have k2 : ∀ y, has R2 y = true ↔ has l y = true ∧ e.p + e.d ≤ y := fun y => by
    rw [h2 y, has_cons, has_nil, Bool.or_false, Bool.and_eq_true]
    have hq : (!inR ⟨0, e.p + e.d⟩ y) = true ↔ ¬ (0 ≤ y ∧ y < e.p + e.d) := by
      rw [← inR_in (f := 0) (t := e.p + e.d) (x := y) (by omega) (by unfold top; omega) (by omega) (by unfold top; omega)]
      simp
    rw [hq]
    exact ⟨fun h => ⟨h.1, by have := (has_pos h.1).1; omega⟩, fun h => ⟨h.1, by omega⟩⟩
  have k3 : has (R2.map (sh e)) x = true ↔ e.p + e.i ≤ x ∧ x < top ∧ has l (x - e.i + e.d) = true := by
    rw [has_map]
    constructor
    · rintro ⟨r, hr, hx⟩
      have hre := f2.e r hr
      have hrf : has R2 r.f = true := (f2.has _).2 ⟨r, hr, by omega⟩
      have hrb := ((k2 _).1 hrf).2
      obtain ⟨q1, q2, q3⟩ := (sh_behind ok hre hrb x).1 hx
      have hm : has R2 (x - e.i + e.d) = true := (f2.has _).2 ⟨r, hr, by omega⟩
      exact ⟨by omega, q1, ((k2 _).1 hm).1⟩
    · rintro ⟨q1, q2, q3⟩
      have hm : has R2 (x - e.i + e.d) = true := (k2 _).2 ⟨q3, by omega⟩
      obtain ⟨r, hr, q4, q5⟩ := (f2.has _).1 hm
      have hre := f2.e r hr
      have hrf : has R2 r.f = true := (f2.has _).2 ⟨r, hr, by omega⟩
      exact ⟨r, hr, (sh_behind ok hre ((k2 _).1 hrf).2 x).2 ⟨q2, q4, q5⟩⟩
  rw [has_append, Bool.or_eq_true, Bool.or_eq_true, k1 x, k3, jn_iff ok, hb, Bool.and_eq_true]
  unfold TT
  constructor
  · rintro ((h | h) | h)
    · exact .inl ⟨h.2, h.1⟩
    · exact .inr (.inr ⟨h.1.1, h.1.2, h.2⟩)
    · exact .inr (.inl h)
  · rintro (h | h | h)
    · exact .inl (.inl ⟨h.2, h.1⟩)
    · exact .inr h
    · exact .inl (.inr ⟨⟨h.1, h.2.1⟩, h.2.2⟩)
/-- THE DOCUMENT's WAY. -/
theorem ref_moves {e : Ed} (ok : Ok e) {l R : List Rg} {b : Bool} (h1 : ∀ x, has R x = (has l x && !has [⟨e.p, e.p + e.d⟩] x)) (f1 : Form R) (hb : b = (has l (e.p - 1) && has l (e.p + e.d))) (x : Int) :
    has (R.flatMap (cutL e) ++ jn e b) x = true ↔ TT e l x := by
  have hp := ok.p
  have hd := ok.d
  have hi := ok.i
  have k1 : ∀ y, has R y = true ↔ has l y = true ∧ ¬ (e.p ≤ y ∧ y < e.p + e.d) := fun y => by
    rw [h1 y, has_cons, has_nil, Bool.or_false, Bool.and_eq_true]
    rw [← inR_in (f := e.p) (t := e.p + e.d) (x := y) (by omega) (by unfold top; omega) (by omega) (by unfold top; omega)]
    simp
  have k2 : ∀ r ∈ R, (has (cutL e r) x = true ↔ (x < e.p ∧ r.f ≤ x ∧ x < r.t) ∨ (e.p + e.i ≤ x ∧ x < top ∧ r.f ≤ x - e.i + e.d ∧ x - e.i + e.d < r.t)) := fun r hr => by
    have hre := f1.e r hr
    have hmem : ∀ y, r.f ≤ y → y < r.t → ¬ (e.p ≤ y ∧ y < e.p + e.d) := fun y q1 q2 => ((k1 y).1 ((f1.has y).2 ⟨r, hr, q1, q2⟩)).2
    unfold cutL
    by_cases hc : r.f < e.p ∧ e.p < r.t
    · rw [if_pos hc, has_cons, has_cons, has_nil, Bool.or_false, Bool.or_eq_true]
      have hm := hmem e.p (by omega) hc.2
      rw [inR_in hre.1 (by omega) (by omega) (by unfold top; omega), sh_behind ok (r := ⟨e.p, r.t⟩) ⟨by show 0 ≤ e.p; omega, hc.2, hre.2.2⟩ (by show e.p + e.d ≤ e.p; omega) x]
      constructor
      · rintro (h | h)
        · exact .inl (by omega)
        · exact .inr (by have h1 : e.p ≤ x - e.i + e.d := h.2.1; have h2 : x - e.i + e.d < r.t := h.2.2; omega)
      · rintro (h | h)
        · exact .inl (by omega)
        · exact .inr ⟨h.2.1, by show e.p ≤ x - e.i + e.d; omega, h.2.2.2⟩
    · rw [if_neg hc, has_cons, has_nil, Bool.or_false]
      by_cases hle : r.t ≤ e.p
      · rw [sh_ahead ok hre hle x]
        constructor
        · rintro h
          exact .inl (by omega)
        · rintro (h | h)
          · exact h.2
          · omega
      · have hf : e.p ≤ r.f := by omega
        have hm := hmem r.f (Int.le_refl _) hre.2.1
        rw [sh_behind ok hre (by omega) x]
        constructor
        · rintro h
          exact .inr (by omega)
        · rintro (h | h)
          · omega
          · exact h.2
  rw [has_append, Bool.or_eq_true, has_flat, jn_iff ok, hb, Bool.and_eq_true]
  unfold TT
  constructor
  · rintro (⟨r, hr, h⟩ | h)
    · rcases (k2 r hr).1 h with h | h
      · exact .inl ⟨h.1, ((k1 x).1 ((f1.has x).2 ⟨r, hr, h.2⟩)).1⟩
      · exact .inr (.inl ⟨h.1, h.2.1, ((k1 _).1 ((f1.has _).2 ⟨r, hr, h.2.2⟩)).1⟩)
    · exact .inr (.inr ⟨h.1.1, h.1.2, h.2⟩)
  · rintro (h | h | h)
    · obtain ⟨r, hr, q⟩ := (f1.has x).1 ((k1 x).2 ⟨h.2, by omega⟩)
      exact .inl ⟨r, hr, (k2 r hr).2 (.inl ⟨h.1, q⟩)⟩
    · obtain ⟨r, hr, q⟩ := (f1.has _).1 ((k1 (x - e.i + e.d)).2 ⟨h.2.2, by omega⟩)
      exact .inl ⟨r, hr, (k2 r hr).2 (.inr ⟨h.1, h.2.1, q⟩)⟩
    · exact .inr ⟨⟨h.1, h.2.1⟩, h.2.2⟩
/-- A place that is not taken away. -/
theorem moved_place {e : Ed} (ok : Ok e) {l : List Rg} {x : Int} (h0 : 0 ≤ x) (h1 : x ≤ 549755813888) (hn : ¬ (e.p ≤ x ∧ x < e.p + e.d)) : TT e l (mv e x) ↔ has l x = true := by
  have hp := ok.p
  have hd := ok.d
  have hi := ok.i
  unfold mv TT
  by_cases h2 : x < e.p
  · rw [if_pos h2]
    constructor
    · rintro (h | h | h)
      · exact h.2
      · omega
      · omega
    · intro h
      exact .inl ⟨h2, h⟩
  · rw [if_neg h2, if_neg (by omega)]
    have hx : x - e.d + e.i - e.i + e.d = x := by omega
    rw [hx]
    constructor
    · rintro (h | h | h)
      · omega
      · exact h.2.2
      · omega
    · intro h
      exact .inr (.inl ⟨by omega, by unfold top; omega, h⟩)
end Go.Proofs.Ytcbddmmoioggaaa.Sp
