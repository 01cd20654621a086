/- What changes where: the ends of ranges, sorted; how many are open. -/
import Derived.Test.YtcbddmmoioggaaaPa
namespace Go.Proofs.Ytcbddmmoioggaaa.Sp
set_option linter.unusedVariables false
set_option linter.unusedSimpArgs false
/-- A list of ends grows by one, at place k. -/
theorem ins_ok {out : List Int} {x : Int} {k : Nat} (hs : out.Pairwise (· < ·)) (hk : k ≤ out.length) (hlt : ∀ j y, j < k → out[j]? = some y → y < x) (hge : ∀ y, out[k]? = some y → x < y) :
    (out.take k ++ [x] ++ out.drop k).Pairwise (· < ·) ∧ (∀ e, e ∈ out.take k ++ [x] ++ out.drop k ↔ e = x ∨ e ∈ out) := by
  have hta : ∀ y ∈ out.take k, y < x := fun y hy => by
    obtain ⟨j, hj⟩ := List.mem_iff_getElem?.1 hy
    rw [List.getElem?_take] at hj
    split at hj
    · exact hlt j y (by assumption) hj
    · cases hj
  have hdr : ∀ y ∈ out.drop k, x < y := fun y hy => by
    cases hd : out.drop k with
    | nil => rw [hd] at hy; cases hy
    | cons z r =>
      have hz : out[k]? = some z := by
        have : (out.drop k)[0]? = some z := by rw [hd]; rfl
        rw [List.getElem?_drop] at this
        simpa using this
      have hxz := hge z hz
      rw [hd] at hy
      rcases List.mem_cons.1 hy with rfl | hy
      · exact hxz
      · have hp : (out.drop k).Pairwise (· < ·) := hs.sublist (List.drop_sublist _ _)
        rw [hd] at hp
        have := (List.pairwise_cons.1 hp).1 y hy
        omega
  refine ⟨?_, fun e => ?_⟩
  · rw [List.append_assoc, List.pairwise_append]
    refine ⟨hs.sublist (List.take_sublist _ _), ?_, fun y hy z hz => ?_⟩
    · rw [List.singleton_append, List.pairwise_cons]
      exact ⟨hdr, hs.sublist (List.drop_sublist _ _)⟩
    · have h1 := hta y hy
      rcases List.mem_cons.1 hz with rfl | hz
      · exact h1
      · have := hdr z hz
        omega
  · have hm : e ∈ out ↔ e ∈ out.take k ∨ e ∈ out.drop k := by
      rw [← List.mem_append, List.take_append_drop]
    simp only [List.mem_append, List.mem_singleton, hm]
    constructor
    · rintro ((h | h) | h)
      · exact .inr (.inl h)
      · exact .inl h
      · exact .inr (.inr h)
    · rintro (h | h | h)
      · exact .inl (.inr h)
      · exact .inl (.inl h)
      · exact .inr h
/-- An end: where, of which list, by how much. -/
structure En where
  a : Int
  w : Int
  b : Int
def evr (w : Int) (r : Rg) : List En := if clip r.f < clip r.t then [⟨clip r.f, w, 1⟩, ⟨clip r.t, w, -1⟩] else []
def evl (w : Int) (l : List Rg) : List En := l.flatMap (evr w)
def cnt (w p : Int) : List En → Int
  | [] => 0
  | e :: E => (if e.w = w ∧ e.a ≤ p then e.b else 0) + cnt w p E
def tot (w : Int) : List En → Int
  | [] => 0
  | e :: E => (if e.w = w then e.b else 0) + tot w E
theorem cnt_append (w p : Int) : ∀ A B : List En, cnt w p (A ++ B) = cnt w p A + cnt w p B
  | [], B => by simp [cnt]
  | e :: A, B => by
    simp only [List.cons_append, cnt, cnt_append w p A B]
    omega
theorem tot_append (w : Int) : ∀ A B : List En, tot w (A ++ B) = tot w A + tot w B
  | [], B => by simp [tot]
  | e :: A, B => by
    simp only [List.cons_append, tot, tot_append w A B]
    omega
theorem cnt_perm (w p : Int) {A B : List En} (h : A.Perm B) : cnt w p A = cnt w p B := by
  induction h with
  | nil => rfl
  | cons x _ ih => simp only [cnt, ih]
  | swap x y l => simp only [cnt]; omega
  | trans _ _ h1 h2 => exact h1.trans h2
theorem cnt_low (w p : Int) : ∀ {A : List En}, (∀ e ∈ A, e.a ≤ p) → cnt w p A = tot w A
  | [], _ => rfl
  | e :: A, h => by
    have h1 := h e (by simp)
    simp only [cnt, tot, cnt_low w p (fun q hq => h q (List.mem_cons_of_mem _ hq))]
    by_cases hw : e.w = w
    · rw [if_pos ⟨hw, h1⟩, if_pos hw]
    · rw [if_neg (fun hh => hw hh.1), if_neg hw]
theorem cnt_high (w p : Int) : ∀ {A : List En}, (∀ e ∈ A, p < e.a) → cnt w p A = 0
  | [], _ => rfl
  | e :: A, h => by
    have h1 := h e (by simp)
    simp only [cnt, cnt_high w p (fun q hq => h q (List.mem_cons_of_mem _ hq))]
    rw [if_neg (fun hh => by omega)]
    rfl
theorem cnt_evr (w p : Int) (r : Rg) : cnt w p (evr w r) = if inR r p = true then 1 else 0 := by
  unfold evr
  by_cases h : clip r.f < clip r.t
  · rw [if_pos h]
    simp only [cnt, inR, true_and]
    by_cases h1 : clip r.f ≤ p <;> by_cases h2 : clip r.t ≤ p
    · have : ¬ p < clip r.t := by omega
      simp [h1, h2, this]
    · have : p < clip r.t := by omega
      simp [h1, h2, this]
    · omega
    · simp [h1, h2]
  · rw [if_neg h]
    have : inR r p = false := by
      cases hq : inR r p with
      | false => rfl
      | true => simp [inR] at hq; omega
    rw [this]
    rfl
theorem cnt_evl (w p : Int) : ∀ l : List Rg, 0 ≤ cnt w p (evl w l) ∧ (0 < cnt w p (evl w l) ↔ has l p = true)
  | [] => ⟨Int.le_refl _, ⟨fun h => absurd h (Int.lt_irrefl 0), fun h => by cases h⟩⟩
  | r :: l => by
    have ih := cnt_evl w p l
    have e : cnt w p (evl w (r :: l)) = (if inR r p = true then 1 else 0) + cnt w p (evl w l) := by
      rw [← cnt_evr w p r, ← cnt_append]
      simp [evl]
    rw [e, has_cons]
    cases hq : inR r p with
    | true =>
      simp
      omega
    | false =>
      simp
      exact ih
theorem cnt_evr_other {w w' : Int} (hw : w ≠ w') (p : Int) (r : Rg) : cnt w p (evr w' r) = 0 := by
  unfold evr
  split
  · simp [cnt, hw.symm]
  · rfl
theorem cnt_other {w w' : Int} (hw : w ≠ w') (p : Int) : ∀ l : List Rg, cnt w p (evl w' l) = 0
  | [] => rfl
  | r :: l => by
    have e : cnt w p (evl w' (r :: l)) = cnt w p (evr w' r) + cnt w p (evl w' l) := by
      rw [← cnt_append]
      simp [evl]
    rw [e, cnt_evr_other hw, cnt_other hw p l]
    rfl
/-- Ranges that are not empty. -/
def ne (l : List Rg) : List Rg := l.filter fun r => decide (clip r.f < clip r.t)
theorem has_ne (l : List Rg) (x : Int) : has (ne l) x = has l x := by
  have h : has (ne l) x = true ↔ has l x = true := by
    rw [has_iff, has_iff]
    constructor
    · rintro ⟨r, hr, h⟩
      exact ⟨r, (List.mem_filter.1 hr).1, h⟩
    · rintro ⟨r, hr, h1, h2⟩
      exact ⟨r, List.mem_filter.2 ⟨hr, decide_eq_true (by omega)⟩, h1, h2⟩
  cases h1 : has (ne l) x <;> cases h2 : has l x <;> simp_all
theorem ends_ne {w : Int} {l : List Rg} {e : Int} (h : e ∈ endsL (ne l)) : ∃ v ∈ evl w l, v.a = e := by
  unfold endsL at h
  rw [List.mem_flatMap] at h
  obtain ⟨r, hr, he⟩ := h
  obtain ⟨hrl, hrd⟩ := List.mem_filter.1 hr
  have hlt := of_decide_eq_true hrd
  unfold evl
  simp only [List.mem_flatMap]
  rcases List.mem_cons.1 he with rfl | he
  · exact ⟨⟨clip r.f, w, 1⟩, ⟨r, hrl, by unfold evr; rw [if_pos hlt]; simp⟩, rfl⟩
  · simp at he
    subst he
    exact ⟨⟨clip r.t, w, -1⟩, ⟨r, hrl, by unfold evr; rw [if_pos hlt]; simp⟩, rfl⟩
theorem mem_evl {w : Int} {l : List Rg} {v : En} (h : v ∈ evl w l) : v.w = w ∧ (0 ≤ v.a ∧ v.a ≤ top) ∧ (v.b = 1 ∨ v.b = -1) := by
  unfold evl at h
  rw [List.mem_flatMap] at h
  obtain ⟨r, hr, hv⟩ := h
  unfold evr at hv
  split at hv
  · rcases List.mem_cons.1 hv with rfl | hv
    · exact ⟨rfl, clip_in _, .inl rfl⟩
    · simp at hv
      subst hv
      exact ⟨rfl, clip_in _, .inr rfl⟩
  · cases hv
theorem len_evl (w : Int) : ∀ l : List Rg, (evl w l).length ≤ 2 * l.length
  | [] => by simp [evl]
  | r :: l => by
    have ih := len_evl w l
    have e : evl w (r :: l) = evr w r ++ evl w l := by simp [evl]
    have h2 : (evr w r).length ≤ 2 := by unfold evr; split <;> simp
    rw [e, List.length_append, List.length_cons]
    omega
/-- What is told at a place: how many ranges of each list are open. -/
structure Yd where
  p : Int
  x : Int
  y : Int
def bump (o : Int × Int) (e : En) : Int × Int := if e.w = 0 then (o.1 + e.b, o.2) else (o.1, o.2 + e.b)
def yl : List En → Int × Int → List Yd
  | [], _ => []
  | e :: E, o => (match E with
    | [] => [⟨e.a, (bump o e).1, (bump o e).2⟩]
    | e' :: _ => if e'.a = e.a then [] else [⟨e.a, (bump o e).1, (bump o e).2⟩]) ++ yl E (bump o e)
def Srt (E : List En) : Prop := E.Pairwise fun a b => a.a ≤ b.a
theorem tot_bump {pre : List En} {e : En} (he : e.w = 0 ∨ e.w = 1) : bump (tot 0 pre, tot 1 pre) e = (tot 0 (pre ++ [e]), tot 1 (pre ++ [e])) := by
  unfold bump
  rcases he with h | h
  · rw [if_pos h]
    simp [tot_append, tot, h]
  · rw [if_neg (by omega)]
    simp [tot_append, tot, h]
theorem yl_ok : ∀ (E pre : List En), Srt (pre ++ E) → (∀ e ∈ pre ++ E, e.w = 0 ∨ e.w = 1) →
    (∀ y ∈ yl E (tot 0 pre, tot 1 pre), y.x = cnt 0 y.p (pre ++ E) ∧ y.y = cnt 1 y.p (pre ++ E) ∧ (∃ e ∈ E, e.a = y.p)) ∧
    ((yl E (tot 0 pre, tot 1 pre)).map Yd.p).Pairwise (· < ·) ∧ (∀ e ∈ E, e.a ∈ (yl E (tot 0 pre, tot 1 pre)).map Yd.p)
  | [], pre, _, _ => ⟨fun y hy => (by cases hy), List.Pairwise.nil, fun e he => (by cases he)⟩
  | [e], pre, hs, hw => by
    have hb := tot_bump (pre := pre) (hw e (by simp))
    have hle : ∀ q ∈ pre ++ [e], q.a ≤ e.a := fun q hq => by
      rcases List.mem_append.1 hq with hq | hq
      · exact (List.pairwise_append.1 hs).2.2 q hq e (by simp)
      · simp at hq
        rw [hq]
        exact Int.le_refl _
    simp only [yl, hb, List.append_nil]
    refine ⟨fun y hy => ?_, by simp, fun q hq => ?_⟩
    · simp at hy
      subst hy
      exact ⟨(cnt_low 0 e.a hle).symm, (cnt_low 1 e.a hle).symm, e, by simp, rfl⟩
    · simp at hq
      subst hq
      simp
  | e :: e' :: E, pre, hs, hw => by
    have hb := tot_bump (pre := pre) (hw e (by simp))
    have happ : pre ++ e :: e' :: E = (pre ++ [e]) ++ (e' :: E) := by simp
    have ih := yl_ok (e' :: E) (pre ++ [e]) (by rw [← happ]; exact hs) (by rw [← happ]; exact hw)
    rw [← happ] at ih
    obtain ⟨ih1, ih2, ih3⟩ := ih
    have hpre : ∀ q ∈ pre ++ [e], q.a ≤ e.a := fun q hq => by
      rcases List.mem_append.1 hq with hq | hq
      · exact (List.pairwise_append.1 hs).2.2 q hq e (by simp)
      · simp at hq
        rw [hq]
        exact Int.le_refl _
    have htl := (List.pairwise_append.1 hs).2.1
    have hee' : e.a ≤ e'.a := (List.pairwise_cons.1 htl).1 e' (by simp)
    have hrest : ∀ q ∈ e' :: E, e'.a ≤ q.a := fun q hq => by
      rcases List.mem_cons.1 hq with rfl | hq
      · exact Int.le_refl _
      · exact (List.pairwise_cons.1 (List.pairwise_cons.1 htl).2).1 q hq
    rw [show yl (e :: e' :: E) (tot 0 pre, tot 1 pre) = (if e'.a = e.a then [] else [⟨e.a, (bump (tot 0 pre, tot 1 pre) e).1, (bump (tot 0 pre, tot 1 pre) e).2⟩]) ++ yl (e' :: E) (bump (tot 0 pre, tot 1 pre) e) from rfl, hb]
    by_cases hea : e'.a = e.a
    · rw [if_pos hea, List.nil_append]
      refine ⟨fun y hy => ?_, ih2, fun q hq => ?_⟩
      · obtain ⟨h1, h2, q, hq, h3⟩ := ih1 y hy
        exact ⟨h1, h2, q, List.mem_cons_of_mem _ hq, h3⟩
      · rcases List.mem_cons.1 hq with rfl | hq
        · rw [← hea]
          exact ih3 e' (by simp)
        · exact ih3 q hq
    · rw [if_neg hea]
      have hlt : ∀ q ∈ e' :: E, e.a < q.a := fun q hq => by have := hrest q hq; omega
      refine ⟨fun y hy => ?_, ?_, fun q hq => ?_⟩
      · rcases List.mem_append.1 hy with hy | hy
        · simp at hy
          subst hy
          rw [happ]
          exact ⟨by rw [cnt_append, cnt_low 0 e.a hpre, cnt_high 0 e.a hlt, Int.add_zero], by rw [cnt_append, cnt_low 1 e.a hpre, cnt_high 1 e.a hlt, Int.add_zero], e, by simp, rfl⟩
        · obtain ⟨h1, h2, q, hq, h3⟩ := ih1 y hy
          exact ⟨h1, h2, q, List.mem_cons_of_mem _ hq, h3⟩
      · rw [List.map_append, List.pairwise_append]
        refine ⟨by simp, ih2, fun y hy z hz => ?_⟩
        simp at hy
        subst hy
        obtain ⟨v, hv, rfl⟩ := List.mem_map.1 hz
        obtain ⟨_, _, q, hq, h3⟩ := ih1 v hv
        rw [← h3]
        exact hlt q hq
      · rw [List.map_append, List.mem_append]
        rcases List.mem_cons.1 hq with rfl | hq
        · exact .inl (by simp)
        · exact .inr (ih3 q hq)
theorem len_yl : ∀ (E : List En) (o : Int × Int), (yl E o).length ≤ E.length
  | [], o => by simp [yl]
  | [e], o => by simp [yl]
  | e :: e' :: E, o => by
    have ih := len_yl (e' :: E) (bump o e)
    rw [show yl (e :: e' :: E) o = (if e'.a = e.a then [] else [⟨e.a, (bump o e).1, (bump o e).2⟩]) ++ yl (e' :: E) (bump o e) from rfl]
    rw [List.length_append]
    have q : (e :: e' :: E).length = (e' :: E).length + 1 := rfl
    rw [q]
    split
    · rw [List.length_nil]
      omega
    · rw [List.length_singleton]
      omega
/-- The program's way: what its loop does with what is told. -/
def stepY (P : Bool → Bool → Bool) (s : SA) (y : Yd) : SA :=
  if (P (decide (0 < y.x)) (decide (0 < y.y)) && !s.on) = true then ⟨y.p, P (decide (0 < y.x)) (decide (0 < y.y)), s.out⟩
  else if (!P (decide (0 < y.x)) (decide (0 < y.y)) && s.on) = true then ⟨s.fr, P (decide (0 < y.x)) (decide (0 < y.y)), s.out ++ [⟨s.fr, y.p⟩]⟩
  else ⟨s.fr, P (decide (0 < y.x)) (decide (0 < y.y)), s.out⟩
theorem fold_stepY {P : Bool → Bool → Bool} {g : Int → Bool} : ∀ {Y : List Yd} {s : SA}, (∀ y ∈ Y, P (decide (0 < y.x)) (decide (0 < y.y)) = g y.p) → Y.foldl (stepY P) s = (Y.map Yd.p).foldl (stepA g) s
  | [], s, _ => rfl
  | y :: Y, s, h => by
    have h1 := h y (by simp)
    have h2 : stepY P s y = stepA g s y.p := by
      unfold stepY stepA
      rw [h1]
    rw [List.foldl_cons, List.map_cons, List.foldl_cons, h2]
    exact fold_stepY (fun z hz => h z (List.mem_cons_of_mem _ hz))
/-- THE PROGRAM's WAY IS RIGHT. -/
theorem prog_ok {P : Bool → Bool → Bool} (hP : P false false = false) {a b : List Rg} {E : List En} (hp : E.Perm (evl 0 a ++ evl 1 b)) (hs : Srt E) :
    Form ((yl E (0, 0)).foldl (stepY P) ⟨0, false, []⟩).out ∧ (∀ x, has ((yl E (0, 0)).foldl (stepY P) ⟨0, false, []⟩).out x = P (has a x) (has b x)) ∧ ((yl E (0, 0)).foldl (stepY P) ⟨0, false, []⟩).out.length ≤ 2 * (a.length + b.length) := by
  have hmem : ∀ e ∈ E, (e.w = 0 ∨ e.w = 1) ∧ 0 ≤ e.a ∧ e.a ≤ top := fun e he => by
    rcases List.mem_append.1 (hp.mem_iff.1 he) with h | h
    · exact ⟨.inl (mem_evl h).1, (mem_evl h).2.1⟩
    · exact ⟨.inr (mem_evl h).1, (mem_evl h).2.1⟩
  obtain ⟨h1, h2, h3⟩ := yl_ok E [] hs (fun e he => (hmem e he).1)
  have h0 : (tot 0 ([] : List En), tot 1 ([] : List En)) = (0, 0) := rfl
  rw [h0] at h1 h2 h3
  rw [List.nil_append] at h1
  have hc0 : ∀ p, (0 < cnt 0 p E ↔ has a p = true) := fun p => by
    rw [cnt_perm 0 p hp, cnt_append, cnt_other (w := 0) (w' := 1) (by decide), Int.add_zero]
    exact (cnt_evl 0 p a).2
  have hc1 : ∀ p, (0 < cnt 1 p E ↔ has b p = true) := fun p => by
    rw [cnt_perm 1 p hp, cnt_append, cnt_other (w := 1) (w' := 0) (by decide), Int.zero_add]
    exact (cnt_evl 1 p b).2
  have hg : ∀ y ∈ yl E (0, 0), P (decide (0 < y.x)) (decide (0 < y.y)) = (fun x => P (has a x) (has b x)) y.p := fun y hy => by
    obtain ⟨e1, e2, _⟩ := h1 y hy
    have d1 : decide (0 < y.x) = has a y.p := by
      rw [e1, Bool.eq_iff_iff, decide_eq_true_iff]
      exact hc0 _
    have d2 : decide (0 < y.y) = has b y.p := by
      rw [e2, Bool.eq_iff_iff, decide_eq_true_iff]
      exact hc1 _
    rw [d1, d2]
  rw [fold_stepY (g := fun x => P (has a x) (has b x)) hg]
  have hst : Steps (fun x => P (has a x) (has b x)) ((yl E (0, 0)).map Yd.p) := by
    have h4 := steps_of hP (a := ne a) (b := ne b) (pts := (yl E (0, 0)).map Yd.p) h2 (fun p hpm => by
      obtain ⟨y, hy, rfl⟩ := List.mem_map.1 hpm
      obtain ⟨_, _, e, he, h5⟩ := h1 y hy
      rw [← h5]
      exact (hmem e he).2) (fun e he => by
      have h6 : ∃ v ∈ E, v.a = e := by
        rcases he with he | he
        · obtain ⟨v, hv, h7⟩ := ends_ne (w := 0) he
          exact ⟨v, hp.mem_iff.2 (List.mem_append_left _ hv), h7⟩
        · obtain ⟨v, hv, h7⟩ := ends_ne (w := 1) he
          exact ⟨v, hp.mem_iff.2 (List.mem_append_right _ hv), h7⟩
      obtain ⟨v, hv, rfl⟩ := h6
      exact h3 v hv)
    simp only [has_ne] at h4
    exact h4
  have hlen : ((yl E (0, 0)).map Yd.p).length ≤ 2 * (a.length + b.length) := by
    rw [List.length_map]
    have q1 := len_yl E (0, 0)
    have q2 := hp.length_eq
    rw [List.length_append] at q2
    have q3 := len_evl 0 a
    have q4 := len_evl 1 b
    omega
  obtain ⟨k1, k2⟩ := foldA_ok hst
  refine ⟨k1, k2, ?_⟩
  have q := foldA_len (fun x => P (has a x) (has b x)) ((yl E (0, 0)).map Yd.p) ⟨0, false, []⟩
  simp only [List.length_nil, Nat.zero_add] at q
  omega
/-- THE DOCUMENT's WAY IS RIGHT. -/
theorem runB_len (g : Int → Bool) : ∀ (pts : List Int) (out : List Rg), (runB g pts out).length ≤ out.length + pts.length
  | [], out => by simp [runB]
  | [p], out => by simp [runB]
  | p :: q :: r, out => by
    have h := runB_len g (q :: r) (if g p = true then putB out p q else out)
    have h2 : (if g p = true then putB out p q else out).length ≤ out.length + 1 := by
      split
      · unfold putB
        split
        · split
          · rename_i r' hr' _
            have : out ≠ [] := fun e => by rw [e] at hr'; cases hr'
            have := List.length_pos_iff.2 this
            simp
          · simp
        · simp
      · omega
    show (runB g (q :: r) (if g p = true then putB out p q else out)).length ≤ _
    simp only [List.length_cons] at h ⊢
    omega
theorem ref_ok {P : Bool → Bool → Bool} (hP : P false false = false) {a b : List Rg} {pts : List Int} (hs : pts.Pairwise (· < ·)) (hr : ∀ p ∈ pts, 0 ≤ p ∧ p ≤ top) (h : ∀ e, e ∈ endsL a ∨ e ∈ endsL b → e ∈ pts) :
    Form (runB (fun x => P (has a x) (has b x)) pts []) ∧ ∀ x, has (runB (fun x => P (has a x) (has b x)) pts []) x = P (has a x) (has b x) := runB_ok (steps_of hP hs hr h)
end Go.Proofs.Ytcbddmmoioggaaa.Sp
