/- A text of whatever bytes is one leaf, if a backslash is put ahead of its quotes and backslashes. No Go in it. -/
import Derived.Test.YtdknppomjcpihaaPureI
namespace Go.Proofs.Ytdknppomjcpihaa.PPy
open Go.RowKit Go.Proofs.YtdknppomjcpihaaW.PrintWords Go.Proofs.YtdknppomjcpihaaW.PrintLast Go.Proofs.YtdknppomjcpihaaW.PrintMore

/-- All of a list's numbers are bytes. -/
def Bys (Y : List Int) : Prop := ∀ x ∈ Y, 0 ≤ x ∧ x ≤ 255
theorem Bys.app {A B : List Int} (h : Bys A) (k : Bys B) : Bys (A ++ B) := fun x hx => by
  rcases List.mem_append.mp hx with e | e
  · exact h x e
  · exact k x e
theorem bt_nums (Y : List Int) (h : Bys Y) (i : Nat) (hi : i < Y.length) : bt (strOfNums Y) (i : Int) = Y.getD i 0 := by
  have hz := strOfNums_size Y
  rw [bt_natI _ i (by omega)]
  have e : (strOfNums Y)[i]'(by omega) = UInt8.ofNat (Y[i]'hi).toNat := by
    have := strOfNums_data Y
    show (strOfNums Y).data[i]'(by have : (strOfNums Y).size = (strOfNums Y).data.size := rfl; omega) = _
    rw [← Array.getElem_toList]
    simp only [this, List.getElem_map]
  rw [e, List.getD_eq_getElem?_getD, List.getElem?_eq_getElem hi]
  have := h _ (List.getElem_mem hi)
  show ((UInt8.ofNat (Y[i]'hi).toNat).toNat : Int) = Y[i]'hi
  rw [UInt8.toNat_ofNat']
  omega
theorem drop_get {Y A : List Int} {i : Nat} (h : Y.drop i = A) (j : Nat) (hj : j < A.length) : Y.getD (i + j) 0 = A.getD j 0 ∧ i + j < Y.length := by
  have hl : A.length = Y.length - i := by rw [← h, List.length_drop]
  refine ⟨?_, by omega⟩
  rw [← h, List.getD_eq_getElem?_getD, List.getD_eq_getElem?_getD, List.getElem?_drop]

def quoL (m : Int) : List Int := if m = 1 then [39, 39, 39] else if m = 2 then [34, 34, 34] else if m = 3 then [39] else [34]
def q0 (m : Int) : Int := if m = 1 ∨ m = 3 then 39 else 34
theorem quot_L (m : Int) (h : 1 ≤ m ∧ m ≤ 4) : quot m = strOfNums (quoL m) ∧ (1 ≤ (quoL m).length ∧ (quoL m).length ≤ 3) ∧ Bys (quoL m) ∧ (quoL m).getD 0 0 = q0 m ∧ (q0 m = 39 ∨ q0 m = 34) := by
  have : m = 1 ∨ m = 2 ∨ m = 3 ∨ m = 4 := by omega
  rcases this with rfl | rfl | rfl | rfl <;> refine ⟨rfl, by decide, ?_, by decide, by decide⟩ <;> intro x hx <;> revert hx <;> simp [quoL] <;> omega
/-- What stands for a byte within a text. -/
def esc1 (_m c : Int) : Int := if c = 10 ∨ c = 13 then 45 else c
def escB (m c : Int) : List Int := if esc1 m c = q0 m ∨ esc1 m c = 92 then [92, esc1 m c] else [esc1 m c]
def escL (m : Int) (l : List Int) : List Int := l.flatMap (escB m)
theorem esc1_rng (m c : Int) (h : 0 ≤ c ∧ c ≤ 255) : 0 ≤ esc1 m c ∧ esc1 m c ≤ 255 ∧ esc1 m c ≠ 10 := by unfold esc1; split <;> omega
theorem escL_bys (m : Int) (l : List Int) (h : Bys l) : Bys (escL m l) ∧ ∀ x ∈ escL m l, x ≠ 10 := by
  constructor
  · intro x hx
    obtain ⟨c, hc, hx2⟩ := List.mem_flatMap.mp hx
    have := esc1_rng m c (h c hc)
    unfold escB at hx2
    split at hx2 <;> simp at hx2 <;> omega
  · intro x hx
    obtain ⟨c, hc, hx2⟩ := List.mem_flatMap.mp hx
    have := esc1_rng m c (h c hc)
    unfold escB at hx2
    split at hx2 <;> simp at hx2 <;> omega

theorem hp_at (Y : List Int) (hY : Bys Y) (i : Nat) (hi : i ≤ Y.length) (Z : List Int) (hZ : Bys Z) : hp ((strOfNums Y).extract i (strOfNums Y).size) (strOfNums Z) = true ↔ (i + Z.length ≤ Y.length ∧ ∀ j, j < Z.length → Y.getD (i + j) 0 = Z.getD j 0) := by
  have hz := strOfNums_size Y
  have hz2 := strOfNums_size Z
  have e1 : ((strOfNums Y).extract i (strOfNums Y).size).size = Y.length - i := by rw [size_tail _ _ (by omega), hz]
  rw [hp_iff, e1, hz2]
  constructor
  · rintro ⟨h1, h2⟩
    refine ⟨by omega, fun j hj => ?_⟩
    have := h2 j hj
    rw [bt_tail _ _ _ (by omega) (by omega), bt_nums Z hZ j hj, show (j : Int) + (i : Int) = ((i + j : Nat) : Int) by omega, bt_nums Y hY _ (by omega)] at this
    exact this
  · rintro ⟨h1, h2⟩
    refine ⟨by omega, fun j hj => ?_⟩
    rw [bt_tail _ _ _ (by omega) (by omega), bt_nums Z hZ j hj, show (j : Int) + (i : Int) = ((i + j : Nat) : Int) by omega, bt_nums Y hY _ (by omega)]
    exact h2 j hj
theorem tx_esc (Y : List Int) (hY : Bys Y) (m : Int) (hm : 1 ≤ m ∧ m ≤ 4) : ∀ (l : List Int), Bys l → ∀ (n i : Nat) (tk : Bool), Y.drop i = escL m l ++ quoL m → Y.length - i < n →
    ∃ b, tx n (strOfNums Y) (quot m) (i : Int) tk = (some ((Y.length : Int) - ((quoL m).length : Int)), b) := by
  obtain ⟨hq, hql, hqb, hq0, hq9⟩ := quot_L m hm
  have hz := strOfNums_size Y
  intro l
  induction l with
  | nil =>
    intro _ n i tk hd hn
    have hd2 : Y.drop i = quoL m := hd
    obtain ⟨n, rfl⟩ : ∃ k, n = k + 1 := ⟨n - 1, by omega⟩
    have hl : (quoL m).length = Y.length - i := by rw [← hd2, List.length_drop]
    have h0 := drop_get hd2 0 (by omega)
    simp only [tx]
    rw [if_pos (by omega)]
    have hb : bt (strOfNums Y) (i : Int) = q0 m := by rw [bt_nums Y hY i (by omega), ← hq0]; exact h0.1
    rw [if_neg (by rw [hb]; omega), Int.toNat_natCast, hq, if_pos ((hp_at Y hY i (by omega) _ hqb).mpr ⟨by omega, fun j hj => (drop_get hd2 j hj).1⟩)]
    exact ⟨tk, by rw [show (Y.length : Int) - ((quoL m).length : Int) = (i : Int) by omega]⟩
  | cons c l ih =>
    intro hb n i tk hd hn
    have hc := hb c (List.mem_cons_self)
    have hbl : Bys l := fun x hx => hb x (List.mem_cons_of_mem _ hx)
    have hr := esc1_rng m c hc
    obtain ⟨n, rfl⟩ : ∃ k, n = k + 1 := ⟨n - 1, by omega⟩
    have hd2 : Y.drop i = escB m c ++ (escL m l ++ quoL m) := by rw [hd]; unfold escL; rw [List.flatMap_cons, List.append_assoc]
    by_cases he : esc1 m c = q0 m ∨ esc1 m c = 92
    · have hE : escB m c = [92, esc1 m c] := by unfold escB; rw [if_pos he]
      rw [hE] at hd2
      have h0 := drop_get hd2 0 (by simp)
      have h1 := drop_get hd2 1 (by simp)
      have hnext : Y.drop (i + 2) = escL m l ++ quoL m := by rw [← List.drop_drop, hd2]; rfl
      obtain ⟨b, hbx⟩ := ih hbl n (i + 2) ((i : Int) + 1 == ((strOfNums Y).size : Int)) hnext (by omega)
      refine ⟨b, ?_⟩
      simp only [tx]
      have hb0 : bt (strOfNums Y) (i : Int) = 92 := by rw [bt_nums Y hY i (by omega)]; exact h0.1
      rw [if_pos (by omega), if_pos hb0]
      exact hbx
    · have hE : escB m c = [esc1 m c] := by unfold escB; rw [if_neg he]
      rw [hE] at hd2
      have h0 := drop_get hd2 0 (by simp)
      have hnext : Y.drop (i + 1) = escL m l ++ quoL m := by rw [← List.drop_drop, hd2]; rfl
      obtain ⟨b, hbx⟩ := ih hbl n (i + 1) tk hnext (by omega)
      refine ⟨b, ?_⟩
      simp only [tx]
      have hb0 : bt (strOfNums Y) (i : Int) = esc1 m c := by rw [bt_nums Y hY i (by omega)]; exact h0.1
      have hne1 : ¬ esc1 m c = 92 := fun e => he (.inr e)
      rw [if_pos (by omega), if_neg (by rw [hb0]; exact hne1), Int.toNat_natCast, hq, if_neg ?_]
      · rw [← hq]; exact hbx
      · intro h
        have := ((hp_at Y hY i (by omega) _ hqb).mp h).2 0 (by omega)
        rw [hq0] at this
        exact he (.inl (h0.1.symm.trans this))

/-- A prefix of texts. -/
def PreOk (p : List Int) : Prop := p = [] ∨ (∃ a, p = [a] ∧ (a = 114 ∨ a = 66 ∨ a = 117)) ∨ (∃ a b, p = [a, b] ∧ ((a = 114 ∧ b = 98) ∨ (a = 70 ∧ b = 114)))
theorem mark_of (Y : List Int) (hY : Bys Y) (m : Int) (hm : 1 ≤ m ∧ m ≤ 4) (i : Nat) (l : List Int) (hl : Bys l) (hd : Y.drop i = quoL m ++ (escL m l ++ quoL m)) : markOf ((strOfNums Y).extract i (strOfNums Y).size) = m := by
  have hi : i ≤ Y.length := by
    apply Decidable.byContradiction
    intro hc
    rw [List.drop_of_length_le (by omega)] at hd
    have : m = 1 ∨ m = 2 ∨ m = 3 ∨ m = 4 := by omega
    rcases this with rfl | rfl | rfl | rfl <;> simp [quoL] at hd
  have hql := fun (k : Int) (hk : 1 ≤ k ∧ k ≤ 4) => quot_L k hk
  have key := fun (k : Int) (hk : 1 ≤ k ∧ k ≤ 4) => hp_at Y hY i hi (quoL k) (hql k hk).2.2.1
  have hlen : Y.length - i = (quoL m ++ (escL m l ++ quoL m)).length := by rw [← hd, List.length_drop]
  have g0 := fun j hj => (drop_get hd j hj).1
  have self : hp ((strOfNums Y).extract i (strOfNums Y).size) (quot m) = true := by
    rw [(hql m hm).1, key m hm]
    refine ⟨by simp at hlen; omega, fun j hj => ?_⟩
    rw [g0 j (by simp; omega), List.getD_eq_getElem?_getD, List.getElem?_append_left hj, List.getD_eq_getElem?_getD]
  -- no three of a sign, where one stands
  have three : ∀ k : Int, (k = 1 ∧ m = 3) ∨ (k = 2 ∧ m = 4) → ¬ hp ((strOfNums Y).extract i (strOfNums Y).size) (quot k) = true := by
    intro k hk h
    have hk4 : 1 ≤ k ∧ k ≤ 4 := by omega
    rw [(hql k hk4).1, key k hk4] at h
    obtain ⟨h1, h2⟩ := h
    have hkl : (quoL k).length = 3 := by rcases hk with ⟨rfl, _⟩ | ⟨rfl, _⟩ <;> rfl
    have hml : (quoL m).length = 1 := by rcases hk with ⟨_, rfl⟩ | ⟨_, rfl⟩ <;> rfl
    have e1 := h2 1 (by omega)
    cases l with
    | nil =>
      have : escL m [] = [] := rfl
      rw [this] at hlen
      simp at hlen
      omega
    | cons c l =>
      have hE : (escL m (c :: l) ++ quoL m).getD 0 0 = if esc1 m c = q0 m ∨ esc1 m c = 92 then 92 else esc1 m c := by
        unfold escL
        rw [List.flatMap_cons]
        unfold escB
        split <;> rfl
      have h3 := g0 1 (by rw [List.length_append, List.length_append]; omega)
      have h4 : (quoL m ++ (escL m (c :: l) ++ quoL m)).getD 1 0 = (escL m (c :: l) ++ quoL m).getD 0 0 := by
        obtain ⟨x, hx⟩ : ∃ x, quoL m = [x] := by rcases hk with ⟨_, rfl⟩ | ⟨_, rfl⟩ <;> exact ⟨_, rfl⟩
        rw [hx]; rfl
      rw [h3, h4, hE] at e1
      have hk0 : (quoL k).getD 1 0 = q0 m := by rcases hk with ⟨rfl, rfl⟩ | ⟨rfl, rfl⟩ <;> rfl
      rw [hk0] at e1
      have hq9 := (hql m hm).2.2.2.2
      split at e1
      · omega
      · rename_i hne
        exact hne (.inl e1)
  have other : ∀ k : Int, 1 ≤ k ∧ k ≤ 4 → q0 k ≠ q0 m → ¬ hp ((strOfNums Y).extract i (strOfNums Y).size) (quot k) = true := by
    intro k hk hne h
    rw [(hql k hk).1, key k hk] at h
    have h5 := h.2 0 (by have := (hql k hk).2.1; omega)
    rw [(hql k hk).2.2.2.1, g0 0 (by have := (hql m hm).2.1; simp; omega), List.getD_eq_getElem?_getD, List.getElem?_append_left (by have := (hql m hm).2.1; omega), ← List.getD_eq_getElem?_getD, (hql m hm).2.2.2.1] at h5
    exact hne h5.symm
  unfold markOf
  have : m = 1 ∨ m = 2 ∨ m = 3 ∨ m = 4 := by omega
  rcases this with rfl | rfl | rfl | rfl
  · rw [if_pos self]
  · rw [if_neg (other 1 (by omega) (by decide)), if_pos self]
  · rw [if_neg (three 1 (by omega)), if_neg (other 2 (by omega) (by decide)), if_pos self]
  · rw [if_neg (other 1 (by omega) (by decide)), if_neg (three 2 (by omega)), if_neg (other 3 (by omega) (by decide)), if_pos self]

theorem texts_main (p : List Int) (hp : PreOk p) (m : Int) (hm : 1 ≤ m ∧ m ≤ 4) (l : List Int) (hl : Bys l) (hz : l.length ≤ 2000) (Y : List Int) (hY0 : Y = p ++ (quoL m ++ (escL m l ++ quoL m))) (r : Rd) (hr : scanM (strOfNums Y ++ ⟨#[10]⟩) 0 0 7 = r) :
    r.ev = [⟨3, 15, 0, (Y.length : Int)⟩] ∧ r.mark = 0 ∧ r.depth = 7 ∧ r.join = false ∧ r.any = true ∧ r.colon = false := by
  obtain ⟨hq, hql, hqb, hq0, hq9⟩ := quot_L m hm
  have hel := escL_bys m l hl
  have hpb : Bys p ∧ p.length ≤ 2 ∧ ∀ x ∈ p, x ≠ 10 := by
    rcases hp with rfl | ⟨a, rfl, ha⟩ | ⟨a, b, rfl, hab⟩
    · exact ⟨fun x hx => by simp at hx, by simp, fun x hx => by simp at hx⟩
    · exact ⟨fun x hx => by simp at hx; omega, by simp, fun x hx => by simp at hx; omega⟩
    · exact ⟨fun x hx => by simp at hx; omega, by simp, fun x hx => by simp at hx; omega⟩
  have hY : Bys Y := by rw [hY0]; exact hpb.1.app (hqb.app (hel.1.app hqb))
  have hq10 : ∀ x ∈ quoL m, x ≠ 10 := by
    have : m = 1 ∨ m = 2 ∨ m = 3 ∨ m = 4 := by omega
    rcases this with rfl | rfl | rfl | rfl <;> intro x hx <;> revert hx <;> simp [quoL] <;> omega
  have hY10 : ∀ x ∈ Y, x ≠ 10 := by
    rw [hY0]
    intro x hx
    rcases List.mem_append.mp hx with h | h
    · exact hpb.2.2 x h
    rcases List.mem_append.mp h with h | h
    · exact hq10 x h
    rcases List.mem_append.mp h with h | h
    · exact hel.2 x h
    · exact hq10 x h
  have hlenE : (escL m l).length ≤ 2 * l.length := by
    unfold escL
    clear hY0 hz hel hl
    induction l with
    | nil => simp
    | cons c l ih =>
      rw [List.flatMap_cons, List.length_append, List.length_cons]
      have : (escB m c).length ≤ 2 := by unfold escB; split <;> simp
      omega
  have hYl : Y.length = p.length + (quoL m).length + (escL m l).length + (quoL m).length := by rw [hY0]; simp; omega
  have hz2 := strOfNums_size Y
  obtain ⟨S, hS⟩ : ∃ S, strOfNums Y = S := ⟨_, rfl⟩
  -- the line
  have hline : lineOf (S ++ ⟨#[10]⟩) = S := by
    have hWz : (S ++ ⟨#[10]⟩ : ByteArray).size = S.size + 1 := by rw [size_app]; rfl
    have hlast : bt (S ++ ⟨#[10]⟩) (S.size : Int) = 10 := by
      have := bt_app_r S ⟨#[10]⟩ 0 (by decide)
      rw [show ((0 : Nat) : Int) = 0 from rfl, Int.add_zero] at this
      exact this.trans (by decide)
    have hin : ∀ i : Nat, i < S.size → bt (S ++ ⟨#[10]⟩) (i : Int) = Y.getD i 0 := fun i hi => by rw [bt_app_l _ _ _ (by omega) (by omega), ← hS, bt_nums Y hY i (by rw [← hS, hz2] at hi; exact hi)]
    have hend : endOf (S ++ ⟨#[10]⟩) = (S.size : Int) := by
      unfold endOf
      rcases ix_cases (S ++ ⟨#[10]⟩) with ⟨_, h2⟩ | ⟨o, ho, h4, h5, h6⟩
      · exact absurd hlast (h2 S.size (by omega))
      · have ho2 : o = S.size := by
          have c1 : ¬ o < S.size := fun c => by
            rw [hin o c] at h5
            have hlt : o < Y.length := by rw [← hS, hz2] at c; exact c
            rw [List.getD_eq_getElem?_getD, List.getElem?_eq_getElem hlt] at h5
            exact hY10 _ (List.getElem_mem hlt) h5
          have c2 : ¬ S.size < o := fun c => h6 S.size c hlast
          omega
        rw [ho, if_pos (by omega)]
        have hbl : bt (S ++ ⟨#[10]⟩) ((o : Int) - 1) ≠ 13 := by
          rw [ho2, show (S.size : Int) - 1 = ((S.size - 1 : Nat) : Int) by rw [← hS, hz2]; omega, hin _ (by rw [← hS, hz2]; omega)]
          have hsz : S.size = Y.length := by rw [← hS]; exact hz2
          have hY1 : Y = (p ++ (quoL m ++ escL m l)) ++ quoL m := by rw [hY0]; simp
          have hqe : Y.drop (Y.length - (quoL m).length) = quoL m := by
            rw [show Y.length - (quoL m).length = (p ++ (quoL m ++ escL m l)).length by simp; omega, hY1, List.drop_left]
          have h7 := (drop_get hqe ((quoL m).length - 1) (by omega)).1
          rw [show S.size - 1 = Y.length - (quoL m).length + ((quoL m).length - 1) by omega, h7]
          have : m = 1 ∨ m = 2 ∨ m = 3 ∨ m = 4 := by omega
          rcases this with rfl | rfl | rfl | rfl <;> decide
        rw [if_neg (fun h => hbl h.2)]
        omega
    rw [lineOf_end, hend, Int.toNat_natCast]
    apply ByteArray.ext
    rw [ByteArray.data_extract, ByteArray.data_append]
    have : S.size = S.data.size := rfl
    rw [this, Array.extract_append_left]
    simp
  have hSz : S.size = Y.length := by rw [← hS]; exact hz2
  have hq1 : Y.drop p.length = quoL m ++ (escL m l ++ quoL m) := by rw [hY0, List.drop_left]
  have hq2 : Y.drop (p.length + (quoL m).length) = escL m l ++ quoL m := by rw [← List.drop_drop, hq1, List.drop_left]
  have hqh : bt S (p.length : Int) = q0 m := by
    have h1 := drop_get hq1 0 (by simp; omega)
    rw [← hS, bt_nums Y hY _ (by omega)]
    have h3 : (quoL m ++ (escL m l ++ quoL m)).getD 0 0 = (quoL m).getD 0 0 := by rw [List.getD_eq_getElem?_getD, List.getElem?_append_left (by omega), ← List.getD_eq_getElem?_getD]
    exact h1.1.trans (h3.trans hq0)
  have hpj : ∀ j : Nat, j < p.length → bt S (j : Int) = p.getD j 0 := by
    intro j hj
    rw [← hS, bt_nums Y hY _ (by omega), hY0, List.getD_eq_getElem?_getD, List.getElem?_append_left hj, List.getD_eq_getElem?_getD]
  have hrest : S.extract 0 S.size = S := ByteArray.extract_zero_size
  have hq39 : preB (smallB (q0 m)) = false := by rcases hq9 with e | e <;> rw [e] <;> decide
  have hmk := mark_of Y hY m hm p.length l hl hq1
  rw [hS] at hmk
  have hbeg : begN 3 S 0 = (p.length : Int) ∧ begM S = m ∧ blankB (bt S 0) = false ∧ bt S 0 ≠ 35 ∧ bt S 0 ≠ 92 := by
    rcases hp with rfl | ⟨a, rfl, ha⟩ | ⟨a, b, rfl, hab⟩
    · have h0 : bt S 0 = q0 m := hqh
      have hN : begN 3 S 0 = 0 := by
        simp only [begN]
        rw [h0, hq39, if_neg (fun h => absurd h.2.2 (by decide))]
      refine ⟨hN, ?_, ?_, by rw [h0]; omega, by rw [h0]; omega⟩
      · unfold begM
        rw [hN, if_neg (fun h => absurd h.1 (by decide))]
        exact hmk
      · rw [h0]; rcases hq9 with e | e <;> rw [e] <;> decide
    · have h0 : bt S 0 = a := hpj 0 (by simp)
      have h1 : bt S 1 = q0 m := hqh
      have hpa : preB (smallB a) = true := by rcases ha with rfl | rfl | rfl <;> decide
      have hN : begN 3 S 0 = 1 := by
        simp only [begN, Int.zero_add]
        rw [h0, hpa, if_pos ⟨by omega, by rw [hSz]; simp at hYl; omega, rfl⟩, h1, hq39, if_neg (fun h => absurd h.2.2 (by decide))]
      refine ⟨hN, ?_, ?_, by rw [h0]; omega, by rw [h0]; omega⟩
      · unfold begM
        rw [hN, if_neg (fun h => absurd h.1 (by decide))]
        exact hmk
      · rw [h0]; rcases ha with rfl | rfl | rfl <;> decide
    · have h0 : bt S 0 = a := hpj 0 (by simp)
      have h1 : bt S 1 = b := hpj 1 (by simp)
      have hpa : preB (smallB a) = true ∧ preB (smallB b) = true ∧ pairB (strOfNums [smallB a, smallB b]) = true := by rcases hab with ⟨rfl, rfl⟩ | ⟨rfl, rfl⟩ <;> decide +kernel
      have hN : begN 3 S 0 = 2 := by
        simp only [begN, Int.zero_add]
        rw [h0, hpa.1, if_pos ⟨by omega, by rw [hSz]; simp at hYl; omega, rfl⟩, h1, hpa.2.1, if_pos ⟨by omega, by rw [hSz]; simp at hYl; omega, rfl⟩, if_neg (by omega)]
        rfl
      refine ⟨hN, ?_, ?_, by rw [h0]; omega, by rw [h0]; omega⟩
      · unfold begM
        rw [hN, h0, h1, hpa.2.2, if_neg (fun h => absurd h.2 (by decide))]
        exact hmk
      · rw [h0]; rcases hab with ⟨rfl, rfl⟩ | ⟨rfl, rfl⟩ <;> decide
  obtain ⟨hN, hM, hbk, h35, h92⟩ := hbeg
  unfold scanM at hr
  rw [hS, hline] at hr
  obtain ⟨r0, hr0⟩ : ∃ r0, Rd.init (S ++ ⟨#[10]⟩) 0 0 7 = r0 := ⟨_, rfl⟩
  have e : r0 = { s := S, pos := 0, ev := [], mark := 0, depth := 7, join := false, any := false, colon := false } := by rw [← hr0]; unfold Rd.init; rw [hline]; rfl
  rw [hr0] at hr
  have hc : r0.c = bt S 0 := by rw [e]; rfl
  have hrr : r0.rest = S := by rw [e]; exact hrest
  have hst : r0.step = r0.begun := by
    have hm0 : ¬ r0.mark ≠ 0 := by rw [e]; exact fun h => h rfl
    unfold Rd.step
    rw [if_neg hm0, hc, hrr, hM, if_neg (by rw [hbk]; decide), if_neg h35, if_neg h92, if_pos (by omega)]
  have htx : ∃ b, tx (S.size + 1) S (quot m) ((p.length : Int) + ((quoL m).length : Int)) false = (some ((Y.length : Int) - ((quoL m).length : Int)), b) := by
    have := tx_esc Y hY m hm l hl (S.size + 1) (p.length + (quoL m).length) false hq2 (by omega)
    rw [hS, Int.natCast_add] at this
    exact this
  obtain ⟨b, htx⟩ := htx
  have hqz : ((quot m).size : Int) = ((quoL m).length : Int) := by rw [hq, strOfNums_size]
  have hst2 : r0.step = ({ r0 with mark := 0 } : Rd).leaf 15 (Y.length : Int) := by
    rw [hst]
    unfold Rd.begun Rd.text
    rw [hrr, hM, hN, hqz, e]
    show (match tx (S.size + 1) S (quot m) (0 + (p.length : Int) + ((quoL m).length : Int)) false with | (some i, _) => _ | (none, taken) => _) = _
    rw [Int.zero_add, htx]
    show (({ s := S, pos := 0, ev := [], mark := 0, depth := 7, join := false, any := false, colon := false } : Rd).leaf 15 ((Y.length : Int) - ((quoL m).length : Int) + ((quoL m).length : Int))) = _
    rw [Int.sub_add_cancel]
  have hfin : r = r0.step := by
    rw [← hr]
    simp only [scanL]
    rw [if_pos (by rw [e]; show (0 : Int) < (S.size : Int); omega)]
    refine scanL_end _ _ ?_
    rw [hst2, (leaf_same _ _ _).2.1, (leaf_same _ _ _).1, e]
    show ¬ (Y.length : Int) < (S.size : Int)
    omega
  rw [hfin, hst2, e]
  refine ⟨?_, ?_, ?_, ?_, ?_, ?_⟩ <;> rfl

end Go.Proofs.Ytdknppomjcpihaa.PPy
