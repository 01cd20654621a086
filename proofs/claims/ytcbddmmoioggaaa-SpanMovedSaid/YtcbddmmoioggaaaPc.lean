/- How many places a list in form has: counted; what has together and alone. -/
import Derived.Test.YtcbddmmoioggaaaPb
namespace Go.Proofs.Ytcbddmmoioggaaa.Sp
set_option linter.unusedVariables false
set_option linter.unusedSimpArgs false
def sumR : List Rg → Int
  | [] => 0
  | r :: l => (r.t - r.f) + sumR l
theorem sumR_append : ∀ a b : List Rg, sumR (a ++ b) = sumR a + sumR b
  | [], b => by simp [sumR]
  | r :: a, b => by simp only [List.cons_append, sumR, sumR_append a b]; omega
theorem sumR_bound : ∀ {l : List Rg}, Form l → 0 ≤ sumR l ∧ sumR l ≤ 1099511627776 * (l.length : Int)
  | [], _ => by simp [sumR]
  | r :: l, h => by
    have ih := sumR_bound h.tail
    have hr := h.e r (by simp)
    unfold top at hr
    simp only [sumR, List.length_cons]
    omega
theorem Form.take {l : List Rg} (h : Form l) (k : Nat) : Form (l.take k) := ⟨fun r hr => h.e r (List.mem_of_mem_take hr), h.p.sublist (List.take_sublist _ _)⟩
/-- How many places below n are in g. -/
def cntTo (g : Int → Bool) : Nat → Int
  | 0 => 0
  | n + 1 => cntTo g n + if g (n : Int) = true then 1 else 0
theorem cntTo_congr {g g' : Int → Bool} (h : ∀ x, g x = g' x) : ∀ n, cntTo g n = cntTo g' n
  | 0 => rfl
  | n + 1 => by simp only [cntTo, cntTo_congr h n, h]
theorem cntTo_split (g g' : Int → Bool) : ∀ n, cntTo (fun x => g x || g' x) n + cntTo (fun x => g x && g' x) n = cntTo g n + cntTo g' n
  | 0 => rfl
  | n + 1 => by
    have ih := cntTo_split g g' n
    have key : ∀ p q : Bool, (if (p || q) = true then (1 : Int) else 0) + (if (p && q) = true then (1 : Int) else 0) = (if p = true then (1 : Int) else 0) + (if q = true then (1 : Int) else 0) := by decide
    have k := key (g (n : Int)) (g' (n : Int))
    simp only [cntTo]
    omega
theorem cntTo_none : ∀ n, cntTo (fun _ => false) n = 0
  | 0 => rfl
  | n + 1 => by simp only [cntTo, cntTo_none n]; rfl
theorem cntTo_range {f t : Int} (h0 : 0 ≤ f) (h1 : f ≤ t) : ∀ n : Nat, cntTo (fun x => decide (f ≤ x) && decide (x < t)) n = (if (n : Int) ≤ f then 0 else if (n : Int) ≤ t then (n : Int) - f else t - f)
  | 0 => by simp [cntTo]; intro h; omega
  | n + 1 => by
    simp only [cntTo, cntTo_range h0 h1 n]
    by_cases a1 : f ≤ (n : Int) <;> by_cases a2 : (n : Int) < t
    · rw [if_pos (show (decide (f ≤ (n : Int)) && decide ((n : Int) < t)) = true from by simp [a1, a2])]
      rw [if_neg (show ¬ ((n + 1 : Nat) : Int) ≤ f from by omega), if_pos (show ((n + 1 : Nat) : Int) ≤ t from by omega)]
      by_cases a3 : (n : Int) ≤ f
      · rw [if_pos a3]; omega
      · rw [if_neg a3, if_pos (by omega)]; omega
    · rw [if_neg (show ¬ (decide (f ≤ (n : Int)) && decide ((n : Int) < t)) = true from by simp [a2])]
      rw [if_neg (show ¬ ((n + 1 : Nat) : Int) ≤ f from by omega), if_neg (show ¬ ((n + 1 : Nat) : Int) ≤ t from by omega)]
      by_cases a3 : (n : Int) ≤ f
      · rw [if_pos a3]; omega
      · rw [if_neg a3]
        by_cases a4 : (n : Int) ≤ t
        · rw [if_pos a4]; omega
        · rw [if_neg a4]; omega
    · rw [if_neg (show ¬ (decide (f ≤ (n : Int)) && decide ((n : Int) < t)) = true from by simp [a1])]
      rw [if_pos (show ((n + 1 : Nat) : Int) ≤ f from by omega), if_pos (show (n : Int) ≤ f from by omega)]
      rfl
    · omega
def topN : Nat := 1099511627776
theorem sumR_count : ∀ {l : List Rg}, Form l → sumR l = cntTo (has l) topN
  | [], _ => (cntTo_none topN).symm
  | r :: l, h => by
    have hr := h.e r (by simp)
    have e1 : ∀ x, has (r :: l) x = ((fun x => decide (r.f ≤ x) && decide (x < r.t)) x || has l x) := fun x => by
      rw [has_cons]
      have := inR_id (f := r.f) (t := r.t) (x := x) hr.1 hr.2.1 hr.2.2
      show (inR r x || has l x) = ((decide (r.f ≤ x) && decide (x < r.t)) || has l x)
      rw [← this]
    have e2 : ∀ x, ((fun x => decide (r.f ≤ x) && decide (x < r.t)) x && has l x) = false := fun x => by
      by_cases hx : x ≤ r.t
      · rw [h.none x hx]
        simp
      · have : ¬ x < r.t := by omega
        simp [this]
    have h3 := cntTo_split (fun x => decide (r.f ≤ x) && decide (x < r.t)) (has l) topN
    rw [← cntTo_congr e1, cntTo_congr e2, cntTo_none, cntTo_range hr.1 (by omega)] at h3
    have ht : r.t ≤ 1099511627776 := hr.2.2
    have hn : ((topN : Nat) : Int) = 1099511627776 := rfl
    rw [hn, if_neg (by omega)] at h3
    simp only [sumR, sumR_count h.tail]
    by_cases hle : (1099511627776 : Int) ≤ r.t
    · rw [if_pos hle] at h3; omega
    · rw [if_neg hle] at h3; omega
/-- Two lists in form, and what both have and what either has: sizes add up. -/
theorem sizes_add {a b u o : List Rg} (ha : Form a) (hb : Form b) (hu : Form u) (ho : Form o) (h1 : ∀ x, has u x = (has a x || has b x)) (h2 : ∀ x, has o x = (has a x && has b x)) : sumR u + sumR o = sumR a + sumR b := by
  rw [sumR_count ha, sumR_count hb, sumR_count hu, sumR_count ho, cntTo_congr h1, cntTo_congr h2]
  exact cntTo_split _ _ _
end Go.Proofs.Ytcbddmmoioggaaa.Sp
