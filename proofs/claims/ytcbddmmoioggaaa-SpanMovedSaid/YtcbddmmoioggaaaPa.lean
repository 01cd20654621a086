/- Ranges as sets, plainly: lists in form, what is told by the places where something changes. -/
import Derived.Below
namespace Go.Proofs.Ytcbddmmoioggaaa.Sp
set_option linter.unusedVariables false
set_option linter.unusedSimpArgs false
structure Rg where
  f : Int
  t : Int
theorem Rg.same {a b : Rg} (h1 : a.f = b.f) (h2 : a.t = b.t) : a = b := by cases a; cases b; simp_all
def top : Int := 1099511627776
def clip (x : Int) : Int := if x < 0 then 0 else if top < x then top else x
theorem clip_in (x : Int) : 0 ≤ clip x ∧ clip x ≤ top := by unfold clip top; split <;> (try split) <;> omega
theorem clip_id {x : Int} (h0 : 0 ≤ x) (h1 : x ≤ top) : clip x = x := by unfold clip; unfold top at *; rw [if_neg (by omega), if_neg (by omega)]
def inR (r : Rg) (x : Int) : Bool := decide (clip r.f ≤ x) && decide (x < clip r.t)
def has (l : List Rg) (x : Int) : Bool := l.any fun r => inR r x
theorem has_nil (x : Int) : has [] x = false := rfl
theorem has_cons (r : Rg) (l : List Rg) (x : Int) : has (r :: l) x = (inR r x || has l x) := rfl
theorem has_append (l m : List Rg) (x : Int) : has (l ++ m) x = (has l x || has m x) := by simp [has]
theorem has_iff (l : List Rg) (x : Int) : has l x = true ↔ ∃ r ∈ l, clip r.f ≤ x ∧ x < clip r.t := by simp [has, inR]
/-- A list in form. -/
structure Form (l : List Rg) : Prop where
  e : ∀ r ∈ l, 0 ≤ r.f ∧ r.f < r.t ∧ r.t ≤ top
  p : l.Pairwise fun a b => a.t < b.f
theorem Form.nil : Form [] := ⟨fun _ h => (by cases h), List.Pairwise.nil⟩
theorem Form.clips {l : List Rg} (h : Form l) {r : Rg} (hr : r ∈ l) : clip r.f = r.f ∧ clip r.t = r.t := by
  have := h.e r hr
  exact ⟨clip_id (by omega) (by omega), clip_id (by omega) (by omega)⟩
theorem Form.has {l : List Rg} (h : Form l) (x : Int) : has l x = true ↔ ∃ r ∈ l, r.f ≤ x ∧ x < r.t := by
  rw [has_iff]
  constructor
  · rintro ⟨r, hr, h1⟩
    obtain ⟨e1, e2⟩ := h.clips hr
    exact ⟨r, hr, by omega⟩
  · rintro ⟨r, hr, h1⟩
    obtain ⟨e1, e2⟩ := h.clips hr
    exact ⟨r, hr, by omega⟩
theorem Form.tail {a : Rg} {l : List Rg} (h : Form (a :: l)) : Form l := ⟨fun r hr => h.e r (List.mem_cons_of_mem _ hr), (List.pairwise_cons.1 h.p).2⟩
theorem Form.behind {a : Rg} {l : List Rg} (h : Form (a :: l)) : ∀ r ∈ l, a.t < r.f := (List.pairwise_cons.1 h.p).1
theorem Form.first {a : Rg} {l : List Rg} (h : Form (a :: l)) (x : Int) (hx : Sp.has (a :: l) x = true) : a.f ≤ x := by
  obtain ⟨r, hr, h1, h2⟩ := (h.has x).1 hx
  rcases List.mem_cons.1 hr with rfl | hr
  · exact h1
  · have := h.behind r hr
    have := h.e a (by simp)
    omega
theorem Form.none {a : Rg} {l : List Rg} (h : Form (a :: l)) (x : Int) (hx : x ≤ a.t) : Sp.has l x = false := by
  cases hq : Sp.has l x with
  | false => rfl
  | true =>
    obtain ⟨r, hr, h1, h2⟩ := (h.tail.has x).1 hq
    have := h.behind r hr
    omega
theorem Form.uniq : ∀ {l m : List Rg}, Form l → Form m → (∀ x, Sp.has l x = Sp.has m x) → l = m
  | [], [], _, _, _ => rfl
  | [], b :: m, _, h2, h => by
    have hb := h2.e b (by simp)
    have := (h2.has b.f).2 ⟨b, by simp, by omega⟩
    rw [← h] at this
    cases this
  | a :: l, [], h1, _, h => by
    have hb := h1.e a (by simp)
    have := (h1.has a.f).2 ⟨a, by simp, by omega⟩
    rw [h] at this
    cases this
  | a :: l, b :: m, h1, h2, h => by
    have ha := h1.e a (by simp)
    have hb := h2.e b (by simp)
    have e1 : a.f = b.f := by
      have q1 := h2.first a.f (by rw [← h]; exact (h1.has _).2 ⟨a, by simp, by omega⟩)
      have q2 := h1.first b.f (by rw [h]; exact (h2.has _).2 ⟨b, by simp, by omega⟩)
      omega
    have e2 : a.t = b.t := by
      rcases Int.lt_trichotomy a.t b.t with hlt | he | hlt
      · have q1 : Sp.has (b :: m) a.t = true := (h2.has _).2 ⟨b, by simp, by omega⟩
        rw [← h] at q1
        obtain ⟨r, hr, h3, h4⟩ := (h1.has _).1 q1
        rcases List.mem_cons.1 hr with rfl | hr
        · omega
        · have := h1.behind r hr
          omega
      · exact he
      · have q1 : Sp.has (a :: l) b.t = true := (h1.has _).2 ⟨a, by simp, by omega⟩
        rw [h] at q1
        obtain ⟨r, hr, h3, h4⟩ := (h2.has _).1 q1
        rcases List.mem_cons.1 hr with rfl | hr
        · omega
        · have := h2.behind r hr
          omega
    have e3 : l = m := Form.uniq h1.tail h2.tail fun x => by
      by_cases hx : x ≤ a.t
      · rw [h1.none x hx, h2.none x (by omega)]
      · have q := h x
        rw [has_cons, has_cons] at q
        have n1 : inR a x = false := by
          have := (h1.clips (r := a) (by simp)).2
          simp [inR]
          omega
        have n2 : inR b x = false := by
          have := (h2.clips (r := b) (by simp)).2
          simp [inR]
          omega
        rw [n1, n2] at q
        simpa using q
    rw [Rg.same e1 e2, e3]
/-! ### Between two neighbouring places a value stays. -/
def Seg (g : Int → Bool) : List Int → Prop
  | [] => True
  | [p] => ∀ x, p ≤ x → g x = false
  | p :: q :: r => p < q ∧ (∀ x, p ≤ x → x < q → g x = g p) ∧ Seg g (q :: r)
structure Steps (g : Int → Bool) (pts : List Int) : Prop where
  z : ∀ x, (∀ p, pts.head? = some p → x < p) → g x = false
  r : ∀ p ∈ pts, 0 ≤ p ∧ p ≤ top
  s : Seg g pts
structure SA where
  fr : Int
  on : Bool
  out : List Rg
def stepA (g : Int → Bool) (s : SA) (p : Int) : SA :=
  if (g p && !s.on) = true then ⟨p, g p, s.out⟩ else if (!g p && s.on) = true then ⟨s.fr, g p, s.out ++ [⟨s.fr, p⟩]⟩ else ⟨s.fr, g p, s.out⟩
structure IA (g : Int → Bool) (s : SA) (p : Int) : Prop where
  f : Form s.out
  b : ∀ r ∈ s.out, r.t < p
  o : s.on = true → 0 ≤ s.fr ∧ s.fr < p ∧ ∀ r ∈ s.out, r.t < s.fr
  v : ∀ x, x < p → g x = (has s.out x || (s.on && decide (s.fr ≤ x)))
theorem Form.beyond {l : List Rg} (h : Form l) {x : Int} (hx : ∀ r ∈ l, r.t ≤ x) : Sp.has l x = false := by
  cases hq : Sp.has l x with
  | false => rfl
  | true =>
    obtain ⟨r, hr, h1, h2⟩ := (h.has x).1 hq
    have := hx r hr
    omega
theorem Form.snoc {l : List Rg} (h : Form l) {a : Rg} (ha : 0 ≤ a.f ∧ a.f < a.t ∧ a.t ≤ top) (hb : ∀ r ∈ l, r.t < a.f) : Form (l ++ [a]) := by
  refine ⟨fun r hr => ?_, ?_⟩
  · rcases List.mem_append.1 hr with hr | hr
    · exact h.e r hr
    · simp at hr
      rw [hr]
      exact ha
  · rw [List.pairwise_append]
    refine ⟨h.p, by simp, fun r hr q hq => ?_⟩
    simp at hq
    rw [hq]
    exact hb r hr
theorem inR_id {f t x : Int} (h0 : 0 ≤ f) (h1 : f < t) (h2 : t ≤ top) : inR ⟨f, t⟩ x = (decide (f ≤ x) && decide (x < t)) := by
  simp only [inR]
  rw [clip_id (x := f) h0 (by omega), clip_id (x := t) (by omega) h2]
theorem stepA_ok {g : Int → Bool} {s : SA} {p q : Int} (h : IA g s p) (hp : 0 ≤ p ∧ p ≤ top) (hpq : p < q) (hc : ∀ x, p ≤ x → x < q → g x = g p) : IA g (stepA g s p) q := by
  have hbe : ∀ x, p ≤ x → has s.out x = false := fun x hx => h.f.beyond fun r hr => by have := h.b r hr; omega
  have hb' : ∀ r ∈ s.out, r.t < q := fun r hr => by have := h.b r hr; omega
  unfold stepA
  cases hg : g p <;> cases ho : s.on
  · simp
    refine ⟨h.f, hb', fun hh => (by cases hh), fun x hx => ?_⟩
    by_cases hxp : x < p
    · rw [h.v x hxp, ho]
    · rw [hc x (by omega) hx, hg, hbe x (by omega)]
      rfl
  · obtain ⟨o1, o2, o3⟩ := h.o ho
    simp
    refine ⟨h.f.snoc ⟨o1, o2, hp.2⟩ o3, fun r hr => ?_, fun hh => (by cases hh), fun x hx => ?_⟩
    · rcases List.mem_append.1 hr with hr | hr
      · exact hb' r hr
      · simp at hr
        rw [hr]
        exact hpq
    · rw [has_append, has_cons, has_nil, inR_id o1 o2 hp.2]
      by_cases hxp : x < p
      · rw [h.v x hxp, ho]
        simp [hxp]
      · rw [hc x (by omega) hx, hg, hbe x (by omega)]
        simp [hxp]
  · simp
    refine ⟨h.f, hb', fun _ => ⟨hp.1, hpq, h.b⟩, fun x hx => ?_⟩
    by_cases hxp : x < p
    · rw [h.v x hxp, ho]
      have : ¬ p ≤ x := by omega
      simp [this]
    · rw [hc x (by omega) hx, hg]
      have : p ≤ x := by omega
      simp [this]
  · obtain ⟨o1, o2, o3⟩ := h.o ho
    simp
    refine ⟨h.f, hb', fun _ => ⟨o1, by show s.fr < q; omega, o3⟩, fun x hx => ?_⟩
    by_cases hxp : x < p
    · rw [h.v x hxp, ho]
    · rw [hc x (by omega) hx, hg]
      have : s.fr ≤ x := by omega
      simp [this]
theorem foldA_seg {g : Int → Bool} : ∀ {pts : List Int} {p : Int} {s : SA}, IA g s p → Seg g (p :: pts) → (∀ q ∈ p :: pts, 0 ≤ q ∧ q ≤ top) → Form ((p :: pts).foldl (stepA g) s).out ∧ (∀ x, has ((p :: pts).foldl (stepA g) s).out x = g x)
  | [], p, s, h, hs, hr => by
    have hs' : ∀ x, p ≤ x → g x = false := hs
    have hp := hr p (by simp)
    have h2 := stepA_ok (q := top + p + 1) h hp (by unfold top; omega) (fun x h1 _ => by rw [hs' x h1, hs' p (Int.le_refl _)])
    have hon : (stepA g s p).on = false := by
      have : (stepA g s p).on = g p := by unfold stepA; split <;> (try split) <;> rfl
      rw [this]
      exact hs' p (Int.le_refl _)
    simp only [List.foldl_cons, List.foldl_nil]
    refine ⟨h2.f, fun x => ?_⟩
    by_cases hx : x < top + p + 1
    · rw [h2.v x hx, hon]
      simp
    · rw [hs' x (by unfold top at hx; omega)]
      exact h2.f.beyond fun r hr => by have := h2.b r hr; omega
  | q :: pts, p, s, h, hs, hr => by
    obtain ⟨h1, h2, h3⟩ := (hs : p < q ∧ (∀ x, p ≤ x → x < q → g x = g p) ∧ Seg g (q :: pts))
    rw [List.foldl_cons]
    exact foldA_seg (stepA_ok h (hr p (by simp)) h1 h2) h3 (fun z hz => hr z (List.mem_cons_of_mem _ hz))
theorem foldA_ok {g : Int → Bool} {pts : List Int} (h : Steps g pts) : Form (pts.foldl (stepA g) ⟨0, false, []⟩).out ∧ ∀ x, has (pts.foldl (stepA g) ⟨0, false, []⟩).out x = g x := by
  cases pts with
  | nil => exact ⟨Form.nil, fun x => (h.z x (fun p hp => by cases hp)).symm⟩
  | cons p pts =>
    refine foldA_seg ⟨Form.nil, fun r hr => (by cases hr), fun hh => (by cases hh), fun x hx => ?_⟩ h.s h.r
    rw [h.z x (fun q hq => by simp at hq; omega)]
    rfl
theorem foldA_len (g : Int → Bool) : ∀ (pts : List Int) (s : SA), (pts.foldl (stepA g) s).out.length ≤ s.out.length + pts.length
  | [], s => by simp
  | p :: pts, s => by
    rw [List.foldl_cons]
    have h := foldA_len g pts (stepA g s p)
    have h2 : (stepA g s p).out.length ≤ s.out.length + 1 := by unfold stepA; split <;> (try split) <;> simp
    simp only [List.length_cons]
    omega
/-! ### The document's way. -/
def putB (out : List Rg) (p q : Int) : List Rg := match out.getLast? with
  | some r => if r.t = p then out.dropLast ++ [⟨r.f, q⟩] else out ++ [⟨p, q⟩]
  | none => out ++ [⟨p, q⟩]
def runB (g : Int → Bool) : List Int → List Rg → List Rg
  | p :: q :: r, out => runB g (q :: r) (if g p = true then putB out p q else out)
  | _, out => out
structure IB (g : Int → Bool) (out : List Rg) (p : Int) : Prop where
  f : Form out
  b : ∀ r ∈ out, r.t ≤ p
  v : ∀ x, x < p → g x = has out x
theorem putB_ok {g : Int → Bool} {out : List Rg} {p q : Int} (h : IB g out p) (hp : 0 ≤ p ∧ q ≤ top) (hpq : p < q) (hc : ∀ x, p ≤ x → x < q → g x = g p) : IB g (if g p = true then putB out p q else out) q := by
  have hbe : ∀ x, p ≤ x → has out x = false := fun x hx => h.f.beyond fun r hr => by have := h.b r hr; omega
  cases hg : g p with
  | false =>
    rw [if_neg (by simp)]
    refine ⟨h.f, fun r hr => by have := h.b r hr; omega, fun x hx => ?_⟩
    by_cases hxp : x < p
    · exact h.v x hxp
    · rw [hc x (by omega) hx, hg, hbe x (by omega)]
  | true =>
    rw [if_pos rfl]
    have hadd : (∀ r ∈ out, r.t < p) → IB g (out ++ [⟨p, q⟩]) q := fun hlt => by
      refine ⟨h.f.snoc ⟨hp.1, hpq, hp.2⟩ hlt, fun r hr => ?_, fun x hx => ?_⟩
      · rcases List.mem_append.1 hr with hr | hr
        · have := h.b r hr; omega
        · simp at hr
          rw [hr]
          exact Int.le_refl _
      · rw [has_append, has_cons, has_nil, inR_id hp.1 hpq hp.2]
        by_cases hxp : x < p
        · rw [h.v x hxp]
          have : ¬ p ≤ x := by omega
          simp [this]
        · rw [hc x (by omega) hx, hg, hbe x (by omega)]
          have : p ≤ x := by omega
          simp [this, hx]
    rcases List.eq_nil_or_concat out with ho | ⟨o, r, ho⟩
    · subst ho
      exact hadd (fun r hr => by cases hr)
    · rw [List.concat_eq_append] at ho
      subst ho
      have hl : (o ++ [r]).getLast? = some r := by simp
      have hfo : Form o := ⟨fun z hz => h.f.e z (List.mem_append_left _ hz), (List.pairwise_append.1 h.f.p).1⟩
      have hor : ∀ z ∈ o, z.t < r.f := fun z hz => (List.pairwise_append.1 h.f.p).2.2 z hz r (by simp)
      have hr := h.f.e r (by simp)
      have hrp := h.b r (by simp)
      unfold putB
      rw [hl]
      simp only
      by_cases hrt : r.t = p
      · rw [if_pos hrt, show (o ++ [r]).dropLast = o from by simp]
        refine ⟨hfo.snoc ⟨hr.1, by show r.f < q; omega, hp.2⟩ hor, fun z hz => ?_, fun x hx => ?_⟩
        · rcases List.mem_append.1 hz with hz | hz
          · have := hor z hz; omega
          · simp at hz
            rw [hz]
            exact Int.le_refl _
        · rw [has_append, has_cons, has_nil, inR_id hr.1 (by omega) hp.2]
          by_cases hxp : x < p
          · rw [h.v x hxp, has_append, has_cons, has_nil]
            have e : inR r x = (decide (r.f ≤ x) && decide (x < p)) := by
              have := inR_id (f := r.f) (t := r.t) (x := x) hr.1 hr.2.1 hr.2.2
              rw [hrt] at this
              rw [← this, ← hrt]
            rw [e]
            simp [hxp, hx]
          · rw [hc x (by omega) hx, hg]
            have h1 : r.f ≤ x := by omega
            simp [h1, hx]
      · rw [if_neg hrt]
        refine hadd fun z hz => ?_
        rcases List.mem_append.1 hz with hz | hz
        · have := hor z hz; omega
        · simp at hz
          rw [hz]
          omega
theorem runB_seg {g : Int → Bool} : ∀ {pts : List Int} {p : Int} {out : List Rg}, IB g out p → Seg g (p :: pts) → (∀ q ∈ p :: pts, 0 ≤ q ∧ q ≤ top) → Form (runB g (p :: pts) out) ∧ (∀ x, has (runB g (p :: pts) out) x = g x)
  | [], p, out, h, hs, hr => by
    have hs' : ∀ x, p ≤ x → g x = false := hs
    refine ⟨h.f, fun x => ?_⟩
    show has out x = g x
    by_cases hx : x < p
    · exact (h.v x hx).symm
    · rw [hs' x (by omega)]
      exact h.f.beyond fun r hr => by have := h.b r hr; omega
  | q :: pts, p, out, h, hs, hr => by
    obtain ⟨h1, h2, h3⟩ := (hs : p < q ∧ (∀ x, p ≤ x → x < q → g x = g p) ∧ Seg g (q :: pts))
    have h4 := putB_ok h ⟨(hr p (by simp)).1, (hr q (by simp)).2⟩ h1 h2
    show Form (runB g (q :: pts) (if g p = true then putB out p q else out)) ∧ (∀ x, has (runB g (q :: pts) (if g p = true then putB out p q else out)) x = g x)
    exact runB_seg h4 h3 (fun z hz => hr z (List.mem_cons_of_mem _ hz))
theorem runB_ok {g : Int → Bool} {pts : List Int} (h : Steps g pts) : Form (runB g pts []) ∧ ∀ x, has (runB g pts []) x = g x := by
  cases pts with
  | nil => exact ⟨Form.nil, fun x => (h.z x (fun p hp => by cases hp)).symm⟩
  | cons p pts =>
    refine runB_seg ⟨Form.nil, fun r hr => (by cases hr), fun x hx => ?_⟩ h.s h.r
    rw [h.z x (fun q hq => by simp at hq; omega)]
    rfl
/-! ### Which places are ends. -/
def endsL (l : List Rg) : List Int := l.flatMap fun r => [clip r.f, clip r.t]
theorem mem_ends {l : List Rg} {r : Rg} (h : r ∈ l) : clip r.f ∈ endsL l ∧ clip r.t ∈ endsL l := by
  unfold endsL
  simp only [List.mem_flatMap]
  exact ⟨⟨r, h, by simp⟩, ⟨r, h, by simp⟩⟩
theorem has_between {l : List Rg} {p x : Int} (hpx : p ≤ x) (h : ∀ e ∈ endsL l, e ≤ p ∨ x < e) : has l x = has l p := by
  have hiff : has l x = true ↔ has l p = true := by
    rw [has_iff, has_iff]
    constructor
    · rintro ⟨r, hr, h1, h2⟩
      have e1 := h _ (mem_ends hr).1
      have e2 := h _ (mem_ends hr).2
      exact ⟨r, hr, by omega⟩
    · rintro ⟨r, hr, h1, h2⟩
      have e1 := h _ (mem_ends hr).1
      have e2 := h _ (mem_ends hr).2
      exact ⟨r, hr, by omega⟩
  cases h1 : has l x <;> cases h2 : has l p <;> simp_all
theorem has_before {l : List Rg} {x : Int} (h : ∀ e ∈ endsL l, x < e) : has l x = false := by
  cases hq : has l x with
  | false => rfl
  | true =>
    obtain ⟨r, hr, h1, h2⟩ := (has_iff l x).1 hq
    have := h _ (mem_ends hr).1
    omega
theorem has_after {l : List Rg} {x : Int} (h : ∀ e ∈ endsL l, e ≤ x) : has l x = false := by
  cases hq : has l x with
  | false => rfl
  | true =>
    obtain ⟨r, hr, h1, h2⟩ := (has_iff l x).1 hq
    have := h _ (mem_ends hr).2
    omega
theorem seg_of {P : Bool → Bool → Bool} (hP : P false false = false) {a b : List Rg} : ∀ {pts : List Int} {p : Int}, (p :: pts).Pairwise (· < ·) → (∀ e, e ∈ endsL a ∨ e ∈ endsL b → e < p ∨ e ∈ p :: pts) → Seg (fun x => P (has a x) (has b x)) (p :: pts)
  | [], p, _, h => by
    intro x hx
    have h2 : ∀ e, e ∈ endsL a ∨ e ∈ endsL b → e ≤ x := fun e he => by
      rcases h e he with h | h
      · omega
      · simp at h; omega
    simp only
    rw [has_after (l := a) (fun e he => h2 e (.inl he)), has_after (l := b) (fun e he => h2 e (.inr he)), hP]
  | q :: pts, p, hs, h => by
    rw [List.pairwise_cons] at hs
    have hpq := hs.1 q (by simp)
    refine ⟨hpq, fun x h1 h2 => ?_, seg_of hP hs.2 fun e he => ?_⟩
    · have h3 : ∀ e, e ∈ endsL a ∨ e ∈ endsL b → e ≤ p ∨ x < e := fun e he => by
        rcases h e he with h | h
        · exact .inl (by omega)
        · rcases List.mem_cons.1 h with rfl | h
          · exact .inl (Int.le_refl _)
          · rcases List.mem_cons.1 h with rfl | h
            · exact .inr h2
            · have := (List.pairwise_cons.1 hs.2).1 e h
              exact .inr (by omega)
      simp only
      rw [has_between h1 (fun e he => h3 e (.inl he)), has_between (l := b) h1 (fun e he => h3 e (.inr he))]
    · rcases h e he with h | h
      · exact .inl (by omega)
      · rcases List.mem_cons.1 h with rfl | h
        · exact .inl hpq
        · exact .inr h
theorem steps_of {P : Bool → Bool → Bool} (hP : P false false = false) {a b : List Rg} {pts : List Int} (hs : pts.Pairwise (· < ·)) (hr : ∀ p ∈ pts, 0 ≤ p ∧ p ≤ top) (h : ∀ e, e ∈ endsL a ∨ e ∈ endsL b → e ∈ pts) : Steps (fun x => P (has a x) (has b x)) pts := by
  refine ⟨fun x hx => ?_, hr, ?_⟩
  · have h2 : ∀ e, e ∈ endsL a ∨ e ∈ endsL b → x < e := fun e he => by
      have hm := h e he
      cases pts with
      | nil => cases hm
      | cons p pts =>
        have := hx p rfl
        rcases List.mem_cons.1 hm with rfl | hm
        · exact this
        · have := (List.pairwise_cons.1 hs).1 e hm
          omega
    show P (has a x) (has b x) = false
    rw [has_before (l := a) (fun e he => h2 e (.inl he)), has_before (l := b) (fun e he => h2 e (.inr he)), hP]
  · cases pts with
    | nil => exact trivial
    | cons p pts => exact seg_of hP hs fun e he => .inr (h e he)
end Go.Proofs.Ytcbddmmoioggaaa.Sp
