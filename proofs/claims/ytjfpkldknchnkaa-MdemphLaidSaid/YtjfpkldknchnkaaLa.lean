/- Words laid within signs: plain words. -/
import Derived.Test.YtjfpkldknchnkaaNp
import Derived.Test.YtjfpkldknchnkaaSd
namespace Go.Proofs.Ytjfpkldknchnkaa.Me
open Go.RowKit Go.Proofs.YtjfpkldknchnkaaW.PrintWords Go.Proofs.YtjfpkldknchnkaaW.PrintLast Go.Proofs.YtjfpkldknchnkaaW.PrintMore
attribute [local go_sem] max2_int min2_int max_two min_two max_three min_three max_four min_four
set_option linter.unusedVariables false
set_option linter.unusedSimpArgs false
def nS (m : Int) : Int := if m % 4 < 2 then 1 else 2
def cS (m : Int) : Int := if m % 2 = 0 then 42 else 95
/-- A sign's bytes. -/
def sg (m : Int) : List Int := if m % 4 < 2 then [cS m] else [cS m, cS m]
theorem nS_pos (m : Int) : 1 ≤ nS m ∧ nS m ≤ 2 := by unfold nS; split <;> omega
theorem sg_len (m : Int) : ((sg m).length : Int) = nS m := by unfold sg nS; split <;> rfl
theorem cS_is (m : Int) : cS m = 42 ∨ cS m = 95 := by unfold cS; split <;> simp
def opB (ms : List Int) : List Int := ms.flatMap fun m => [32] ++ sg m ++ [119]
def clB (ms : List Int) : List Int := ms.flatMap fun m => [119] ++ sg m ++ [32]
def lenS : List Int → Int
  | [] => 0
  | m :: ms => 2 + nS m + lenS ms
theorem lenS_app : ∀ (a b : List Int), lenS (a ++ b) = lenS a + lenS b
  | [], b => by simp [lenS]
  | m :: a, b => by
    have := lenS_app a b
    rw [List.cons_append, lenS, lenS, this]
    omega
theorem lenS_le : ∀ (a : List Int), 0 ≤ lenS a ∧ lenS a ≤ 4 * (a.length : Int)
  | [] => by simp [lenS]
  | m :: a => by
    have := lenS_le a
    have := nS_pos m
    rw [lenS, List.length_cons]
    omega
theorem opB_len : ∀ ms, ((opB ms).length : Int) = lenS ms
  | [] => rfl
  | m :: ms => by
    have := opB_len ms
    have h2 := sg_len m
    rw [lenS, ← this, opB, List.flatMap_cons, List.length_append]
    show ((([32] ++ sg m ++ [119]).length + (opB ms).length : Nat) : Int) = _
    simp only [List.length_append, List.length_cons, List.length_nil]
    omega
theorem clB_len : ∀ ms, ((clB ms).length : Int) = lenS ms
  | [] => rfl
  | m :: ms => by
    have := clB_len ms
    have h2 := sg_len m
    rw [lenS, ← this, clB, List.flatMap_cons, List.length_append]
    show ((([119] ++ sg m ++ [32]).length + (clB ms).length : Nat) : Int) = _
    simp only [List.length_append, List.length_cons, List.length_nil]
    omega
/-- What stands in a string at a place. -/
def Stands (S : ByteArray) (at_ : Int) (xs : List Int) : Prop := ∀ (k : Nat) (x : Int), xs[k]? = some x → bt S (at_ + (k : Int)) = x
theorem Stands.left {S : ByteArray} {p : Int} {a b : List Int} (h : Stands S p (a ++ b)) : Stands S p a := fun k x hx => h k x (by rw [List.getElem?_append_left (List.getElem?_eq_some_iff.1 hx).1]; exact hx)
theorem Stands.right {S : ByteArray} {p : Int} {a b : List Int} (h : Stands S p (a ++ b)) : Stands S (p + (a.length : Int)) b := fun k x hx => by
  have := h (a.length + k) x (by rw [List.getElem?_append_right (by omega), Nat.add_sub_cancel_left]; exact hx)
  rw [← this]
  congr 1
  omega
theorem bt_nums {xs : List Int} (hb : ∀ x, x ∈ xs → 0 ≤ x ∧ x ≤ 255) {k : Nat} {x : Int} (h : xs[k]? = some x) : bt (strOfNums xs) (k : Int) = x := by
  have hk := (List.getElem?_eq_some_iff.1 h).1
  have hx := hb x (List.mem_of_getElem? h)
  have hz : k < (strOfNums xs).size := by rw [strOfNums_size]; exact hk
  rw [← bt_nat _ _ hz]
  have hd : (strOfNums xs).data.toList = xs.map fun n => UInt8.ofNat n.toNat := strOfNums_data xs
  have h1 : (strOfNums xs).data.toList[k]? = some (UInt8.ofNat x.toNat) := by rw [hd, List.getElem?_map, h]; rfl
  have h2 : (strOfNums xs)[k]'hz = UInt8.ofNat x.toNat := by
    have h3 : (strOfNums xs).data.toList[k]? = some ((strOfNums xs)[k]'hz) := by
      rw [Array.getElem?_toList]
      exact Array.getElem?_eq_getElem hz
    rw [h3] at h1
    injection h1
  rw [h2, UInt8.toNat_ofNat']
  omega
theorem stands_nums {pre xs post : List Int} (hb : ∀ x, x ∈ pre ++ (xs ++ post) → 0 ≤ x ∧ x ≤ 255) : Stands (strOfNums (pre ++ (xs ++ post))) (pre.length : Int) xs := fun k x hx => by
  have h := bt_nums hb (k := pre.length + k) (x := x) (by
    rw [List.getElem?_append_right (by omega), Nat.add_sub_cancel_left, List.getElem?_append_left (List.getElem?_eq_some_iff.1 hx).1]
    exact hx)
  rw [← h]
  congr 1
/-- The runs from a place on. -/
def RR (S : ByteArray) (E i : Int) : List Rn := runsG S 0 E (E - i).toNat i
theorem runsG_fuel (S : ByteArray) (E : Int) : ∀ (f : Nat) (i : Int), (∀ r i, lookB S 0 i E = some r → 1 ≤ r.n) → (E - i).toNat ≤ f → runsG S 0 E f i = RR S E i
  | 0, i, _, h => by
    unfold RR
    rw [show (E - i).toNat = 0 by omega]
  | f + 1, i, hn, h => by
    by_cases hi : i < E
    · unfold RR
      obtain ⟨g, hg⟩ : ∃ g, (E - i).toNat = g + 1 := ⟨(E - i).toNat - 1, by omega⟩
      rw [hg]
      cases hl : lookB S 0 i E with
      | none =>
        rw [runsG_none hi hl, runsG_none hi hl, runsG_fuel S E f (i + 1) hn (by omega), runsG_fuel S E g (i + 1) hn (by omega)]
      | some r =>
        have := hn r i hl
        rw [runsG_some hi hl, runsG_some hi hl, runsG_fuel S E f (i + r.n) hn (by omega), runsG_fuel S E g (i + r.n) hn (by omega)]
    · rw [runsG_stop hi]
      unfold RR
      rw [runsG_stop hi]
theorem RR_stop {S : ByteArray} {E i : Int} (h : ¬ i < E) : RR S E i = [] := runsG_stop h
theorem RR_none {S : ByteArray} {E i : Int} (hn : ∀ r i, lookB S 0 i E = some r → 1 ≤ r.n) (h : i < E) (hl : lookB S 0 i E = none) : RR S E i = RR S E (i + 1) := by
  obtain ⟨g, hg⟩ : ∃ g, (E - i).toNat = g + 1 := ⟨(E - i).toNat - 1, by omega⟩
  rw [RR, hg, runsG_none h hl]
  exact runsG_fuel S E g (i + 1) hn (by omega)
theorem RR_some {S : ByteArray} {E i : Int} {r : Rn} (hn : ∀ r i, lookB S 0 i E = some r → 1 ≤ r.n) (h : i < E) (hl : lookB S 0 i E = some r) : RR S E i = r :: RR S E (i + r.n) := by
  have := hn r i hl
  obtain ⟨g, hg⟩ : ∃ g, (E - i).toNat = g + 1 := ⟨(E - i).toNat - 1, by omega⟩
  rw [RR, hg, runsG_some h hl, runsG_fuel S E g (i + r.n) hn (by omega)]
def plainB (x : Int) : Prop := x ≠ 42 ∧ x ≠ 95
theorem RR_plain {S : ByteArray} {E : Int} (hn : ∀ r i, lookB S 0 i E = some r → 1 ≤ r.n) : ∀ (xs : List Int) (i : Int), Stands S i xs → (∀ x, x ∈ xs → plainB x) → i + (xs.length : Int) ≤ E → RR S E i = RR S E (i + (xs.length : Int))
  | [], i, _, _, _ => by rw [show i + (([] : List Int).length : Int) = i by simp]
  | x :: xs, i, hs, hp, hE => by
    rw [List.length_cons] at hE ⊢
    have h0 := hs 0 x rfl
    rw [show i + ((0 : Nat) : Int) = i by simp] at h0
    have hx := hp x List.mem_cons_self
    have hl : lookB S 0 i E = none := by
      unfold lookB
      rw [if_neg (fun h => by have := h.2.2.2.1; rw [h0] at this; unfold plainB at hx; omega)]
    have hs2 : Stands S (i + 1) xs := by
      have := hs
      rw [show x :: xs = [x] ++ xs from rfl] at this
      exact this.right
    rw [RR_none hn (by omega) hl, RR_plain hn xs (i + 1) hs2 (fun y hy => hp y (List.mem_cons_of_mem _ hy)) (by omega)]
    congr 1
    omega
theorem cnt_one {b : Int → Int} {c : Int} {f : Nat} {i : Int} (h0 : b i = c) (h1 : b (i + 1) ≠ c) (hf : 2 ≤ f) : cntC b c f i = 1 := by
  obtain ⟨g, rfl⟩ : ∃ g, f = g + 2 := ⟨f - 2, by omega⟩
  rw [cntC, if_pos h0, cntC, if_neg h1]
  rfl
theorem cnt_two {b : Int → Int} {c : Int} {f : Nat} {i : Int} (h0 : b i = c) (h1 : b (i + 1) = c) (h2 : b (i + 2) ≠ c) (hf : 3 ≤ f) : cntC b c f i = 2 := by
  obtain ⟨g, rfl⟩ : ∃ g, f = g + 3 := ⟨f - 3, by omega⟩
  rw [cntC, if_pos h0, cntC, if_pos h1, cntC, if_neg (by rw [show i + 1 + 1 = i + 2 by omega]; exact h2)]
  rfl
/-- A sign between two bytes that are none. -/
theorem look_sign {S : ByteArray} {E i : Int} {m : Int} {x y : Int} (hi : 0 < i) (hE : i + nS m < E) (hs : Stands S (i - 1) ([x] ++ sg m ++ [y])) (hx : plainB x) (hy : plainB y) :
    lookB S 0 i E = some ⟨i, nS m, cS m, opensB (cS m) y x, closesB (cS m) y x⟩ := by
  have hc := cS_is m
  have hx0 : bt S (i - 1) = x := by have := hs 0 x rfl; rw [show i - 1 + ((0 : Nat) : Int) = i - 1 by simp] at this; exact this
  unfold plainB at hx hy
  have hnp := nS_pos m
  have key : bt S i = cS m ∧ cntC (bt S) (cS m) (E - i).toNat i = nS m ∧ bt S (i + nS m) = y := by
    unfold sg at hs
    unfold nS at hE ⊢
    split at hs
    · rename_i h4
      rw [if_pos h4] at hE ⊢
      have h0 := hs 1 (cS m) rfl
      have h1 := hs 2 y rfl
      rw [show i - 1 + ((1 : Nat) : Int) = i by omega] at h0
      rw [show i - 1 + ((2 : Nat) : Int) = i + 1 by omega] at h1
      exact ⟨h0, cnt_one h0 (by rw [h1]; omega) (by omega), h1⟩
    · rename_i h4
      rw [if_neg h4] at hE ⊢
      have h0 := hs 1 (cS m) rfl
      have h1 := hs 2 (cS m) rfl
      have h2 := hs 3 y rfl
      rw [show i - 1 + ((1 : Nat) : Int) = i by omega] at h0
      rw [show i - 1 + ((2 : Nat) : Int) = i + 1 by omega] at h1
      rw [show i - 1 + ((3 : Nat) : Int) = i + 2 by omega] at h2
      exact ⟨h0, cnt_two h0 h1 (by rw [h2]; omega) (by omega), h2⟩
  obtain ⟨k0, k1, k2⟩ := key
  unfold lookB
  rw [if_pos ⟨by omega, by omega, by omega, by rw [k0]; exact hc, fun h => by have := h.2; rw [hx0, k0] at this; omega⟩]
  unfold runAt
  simp only
  rw [k0, k1]
  unfold ofB
  rw [if_neg (by omega), if_neg (by omega), k2, hx0]
theorem open_o (m : Int) : opensB (cS m) 119 32 = true ∧ closesB (cS m) 119 32 = false := by
  rcases cS_is m with h | h <;> rw [h] <;> decide
theorem open_k (m : Int) : opensB (cS m) 32 119 = false ∧ closesB (cS m) 32 119 = true := by
  rcases cS_is m with h | h <;> rw [h] <;> decide
def opR : Int → List Int → List Rn
  | _, [] => []
  | p, m :: ms => ⟨p + 1, nS m, cS m, true, false⟩ :: opR (p + (2 + nS m)) ms
def clR : Int → List Int → List Rn
  | _, [] => []
  | p, m :: ms => ⟨p + 1, nS m, cS m, false, true⟩ :: clR (p + (2 + nS m)) ms
theorem opB_cons (m : Int) (ms : List Int) : opB (m :: ms) = ([32] ++ sg m ++ [119]) ++ opB ms := by unfold opB; rw [List.flatMap_cons]
theorem clB_cons (m : Int) (ms : List Int) : clB (m :: ms) = ([119] ++ sg m ++ [32]) ++ clB ms := by unfold clB; rw [List.flatMap_cons]
theorem sgo_len (m x y : Int) : ((([x] ++ sg m ++ [y]).length : Nat) : Int) = 2 + nS m := by
  have := sg_len m
  simp only [List.length_append, List.length_cons, List.length_nil]
  omega
theorem RR_sign {S : ByteArray} {E p m x y : Int} (hn : ∀ r i, lookB S 0 i E = some r → 1 ≤ r.n) (hp : 0 ≤ p) (hE : p + (2 + nS m) ≤ E) (hs : Stands S p ([x] ++ sg m ++ [y])) (hx : plainB x) (hy : plainB y) :
    RR S E p = ⟨p + 1, nS m, cS m, opensB (cS m) y x, closesB (cS m) y x⟩ :: RR S E (p + (2 + nS m)) := by
  have hnp := nS_pos m
  have hsl := sg_len m
  have h1 := RR_plain hn [x] p hs.left.left (fun z hz => by rw [List.mem_singleton.1 hz]; exact hx) (by simp; omega)
  rw [show p + (([x] : List Int).length : Int) = p + 1 from rfl] at h1
  have h2 := look_sign (S := S) (E := E) (i := p + 1) (m := m) (x := x) (y := y) (by omega) (by omega) (by rw [show p + 1 - 1 = p by omega]; exact hs) hx hy
  rw [h1, RR_some hn (by omega) h2]
  simp only
  congr 1
  have h3 := hs.right
  rw [show p + (([x] ++ sg m).length : Int) = p + 1 + nS m by simp only [List.length_append, List.length_cons, List.length_nil]; omega] at h3
  have h4 := RR_plain hn [y] (p + 1 + nS m) h3 (fun z hz => by rw [List.mem_singleton.1 hz]; exact hy) (by simp; omega)
  rw [h4]
  congr 1
  show p + 1 + nS m + 1 = _
  omega
theorem p32 : plainB 32 := by unfold plainB; omega
theorem p119 : plainB 119 := by unfold plainB; omega
theorem RR_open {S : ByteArray} {E : Int} (hn : ∀ r i, lookB S 0 i E = some r → 1 ≤ r.n) : ∀ (ms : List Int) (p : Int), 0 ≤ p → Stands S p (opB ms) → p + lenS ms ≤ E → RR S E p = opR p ms ++ RR S E (p + lenS ms)
  | [], p, _, _, _ => by simp [opR, lenS]
  | m :: ms, p, h0, hs, hE => by
    rw [lenS] at hE
    have hl := lenS_le ms
    have hnp := nS_pos m
    rw [opB_cons] at hs
    have hr := hs.right
    rw [sgo_len] at hr
    rw [RR_sign hn h0 (by omega) hs.left p32 p119, (open_o m).1, (open_o m).2, RR_open hn ms _ (by omega) hr (by omega), opR, lenS]
    rw [List.cons_append]
    congr 3
    omega
theorem RR_close {S : ByteArray} {E : Int} (hn : ∀ r i, lookB S 0 i E = some r → 1 ≤ r.n) : ∀ (ms : List Int) (p : Int), 0 ≤ p → Stands S p (clB ms) → p + lenS ms ≤ E → RR S E p = clR p ms ++ RR S E (p + lenS ms)
  | [], p, _, _, _ => by simp [clR, lenS]
  | m :: ms, p, h0, hs, hE => by
    rw [lenS] at hE
    have hl := lenS_le ms
    have hnp := nS_pos m
    rw [clB_cons] at hs
    have hr := hs.right
    rw [sgo_len] at hr
    rw [RR_sign hn h0 (by omega) hs.left p119 p32, (open_k m).1, (open_k m).2, RR_close hn ms _ (by omega) hr (by omega), clR, lenS]
    rw [List.cons_append]
    congr 3
    omega
def Bys (l : List Int) : Prop := ∀ x, x ∈ l → 0 ≤ x ∧ x ≤ 255
theorem sg_mem {m x : Int} (h : x ∈ sg m) : x = 42 ∨ x = 95 := by
  have := cS_is m
  unfold sg at h
  split at h <;> simp at h <;> rw [h] <;> exact this
theorem opB_mem {ms : List Int} {x : Int} (h : x ∈ opB ms) : x = 32 ∨ x = 119 ∨ x = 42 ∨ x = 95 := by
  unfold opB at h
  obtain ⟨m, _, h⟩ := List.mem_flatMap.1 h
  rcases List.mem_append.1 h with h | h
  · rcases List.mem_append.1 h with h | h
    · exact .inl (List.mem_singleton.1 h)
    · exact .inr (.inr (sg_mem h))
  · exact .inr (.inl (List.mem_singleton.1 h))
theorem clB_mem {ms : List Int} {x : Int} (h : x ∈ clB ms) : x = 32 ∨ x = 119 ∨ x = 42 ∨ x = 95 := by
  unfold clB at h
  obtain ⟨m, _, h⟩ := List.mem_flatMap.1 h
  rcases List.mem_append.1 h with h | h
  · rcases List.mem_append.1 h with h | h
    · exact .inr (.inl (List.mem_singleton.1 h))
    · exact .inr (.inr (sg_mem h))
  · exact .inl (List.mem_singleton.1 h)
/-- The whole line. -/
def laidB (L0 ms : List Int) : List Int := L0 ++ (opB ms ++ ([32, 118, 32] ++ (clB ms.reverse ++ [120, 10])))
theorem laid_bys {L0 ms : List Int} (h0 : ∀ x, x ∈ L0 → (97 ≤ x ∧ x ≤ 122) ∨ x = 32) : Bys (laidB L0 ms) := fun x hx => by
  unfold laidB at hx
  rcases List.mem_append.1 hx with h | h
  · have := h0 x h; omega
  rcases List.mem_append.1 h with h | h
  · have := opB_mem h; omega
  rcases List.mem_append.1 h with h | h
  · simp at h; omega
  rcases List.mem_append.1 h with h | h
  · have := clB_mem h; omega
  · simp at h; omega
theorem laid_no10 {L0 ms : List Int} (h0 : ∀ x, x ∈ L0 → (97 ≤ x ∧ x ≤ 122) ∨ x = 32) {x : Int} (hx : x ∈ L0 ++ (opB ms ++ ([32, 118, 32] ++ (clB ms.reverse ++ [120])))) : x ≠ 10 ∧ x ≠ 13 := by
  rcases List.mem_append.1 hx with h | h
  · have := h0 x h; omega
  rcases List.mem_append.1 h with h | h
  · have := opB_mem h; omega
  rcases List.mem_append.1 h with h | h
  · simp at h; omega
  rcases List.mem_append.1 h with h | h
  · have := clB_mem h; omega
  · simp at h; omega
theorem laid_len (L0 ms : List Int) : ((laidB L0 ms).length : Int) = (L0.length : Int) + lenS ms + 3 + lenS ms.reverse + 2 := by
  have h1 := opB_len ms
  have h2 := clB_len ms.reverse
  unfold laidB
  simp only [List.length_append, List.length_cons, List.length_nil]
  omega
/-- The runs of the laid line. -/
theorem laid_runs {L0 ms : List Int} (h0 : ∀ x, x ∈ L0 → (97 ≤ x ∧ x ≤ 122) ∨ x = 32) (hl0 : L0.length ≤ 60) (hlm : ms.length ≤ 30) :
    runsB (strOfNums (laidB L0 ms)) 0 10000 = opR (L0.length : Int) ms ++ clR ((L0.length : Int) + lenS ms + 3) ms.reverse := by
  obtain ⟨S, hS⟩ : ∃ S, strOfNums (laidB L0 ms) = S := ⟨_, rfl⟩
  have hb := laid_bys (ms := ms) h0
  have hsz : (S.size : Int) = (L0.length : Int) + lenS ms + 3 + lenS ms.reverse + 2 := by rw [← hS, strOfNums_size]; exact laid_len L0 ms
  have hA := lenS_le ms
  have hC := lenS_le ms.reverse
  rw [List.length_reverse] at hC
  have hbt : ∀ (k : Nat) (x : Int), (laidB L0 ms)[k]? = some x → bt S (k : Int) = x := fun k x hx => by rw [← hS]; exact bt_nums hb hx
  have hX : laidB L0 ms = (L0 ++ (opB ms ++ ([32, 118, 32] ++ (clB ms.reverse ++ [120])))) ++ [10] := by unfold laidB; simp
  obtain ⟨X, hXX⟩ : ∃ X, L0 ++ (opB ms ++ ([32, 118, 32] ++ (clB ms.reverse ++ [120]))) = X := ⟨_, rfl⟩
  have hXl : (X.length : Int) = (S.size : Int) - 1 := by
    have := congrArg List.length hX
    rw [hXX, List.length_append, List.length_singleton] at this
    have h2 := laid_len L0 ms
    omega
  rw [hXX] at hX
  have hno : ∀ x, x ∈ X → x ≠ 10 ∧ x ≠ 13 := fun x hx => laid_no10 h0 (by rw [hXX]; exact hx)
  have hat : ∀ k : Nat, k < X.length → bt S (k : Int) ≠ 10 ∧ bt S (k : Int) ≠ 13 := fun k hk => by
    have h1 : X[k]? = some X[k] := List.getElem?_eq_getElem hk
    rw [hbt k _ (by rw [hX, List.getElem?_append_left hk]; exact h1)]
    exact hno _ (List.getElem_mem hk)
  have h10 : bt S (X.length : Int) = 10 := hbt _ _ (by rw [hX, List.getElem?_append_right (Nat.le_refl _), Nat.sub_self]; rfl)
  have hE : isEnd S ((S.size : Int) - 1) := by
    refine .inr ⟨(X.length : Int), by omega, by omega, h10, fun k k0 k1 => ?_, .inr ⟨fun h => ?_, by omega⟩⟩
    · obtain ⟨j, rfl⟩ : ∃ j : Nat, k = (j : Int) := ⟨k.toNat, by omega⟩
      exact (hat j (by omega)).1
    · obtain ⟨j, hj⟩ : ∃ j : Nat, (X.length : Int) - 1 = (j : Int) := ⟨X.length - 1, by omega⟩
      have := (hat j (by omega)).2
      rw [hj] at h
      exact this h.2
  have hend : endC S = (S.size : Int) - 1 := isEnd_uniq (endC_is S) hE
  have hmin : minE S 10000 = (S.size : Int) - 1 := by unfold minE; rw [hend, if_pos (by omega)]
  rw [hS]
  unfold runsB
  rw [hmin]
  have hn : ∀ r i, lookB S 0 i ((S.size : Int) - 1) = some r → 1 ≤ r.n := fun r i h => (lookB_in (en := 10000) (by rw [hmin]; exact h)).1
  have hw : Stands S 0 (laidB L0 ms) := fun k x hx => by rw [Int.zero_add]; exact hbt k x hx
  unfold laidB at hw
  have w1 := hw.right
  have w2 := w1.right
  have w3 := w2.right
  rw [Int.zero_add] at w1 w2 w3
  rw [opB_len] at w2 w3
  have hpl : ∀ x, x ∈ L0 → plainB x := fun x hx => by have := h0 x hx; unfold plainB; omega
  rw [if_neg (by omega), runsG_fuel S _ _ 0 hn (by omega), RR_plain hn L0 0 hw.left hpl (by omega), Int.zero_add, RR_open hn ms _ (by omega) w1.left (by omega)]
  have h3 := RR_plain hn [32, 118, 32] _ w2.left (fun x hx => by simp at hx; unfold plainB; omega) (by simp only [List.length_cons, List.length_nil]; omega)
  have h4 := RR_close hn ms.reverse _ (by simp only [List.length_cons, List.length_nil]; omega) w3.left (by simp only [List.length_cons, List.length_nil]; omega)
  have w4 := w3.right
  rw [clB_len] at w4
  have h5 := RR_plain hn [120] _ (show Stands S _ ([120] ++ [10]) from w4).left (fun x hx => by simp at hx; unfold plainB; omega) (by simp only [List.length_cons, List.length_nil]; omega)
  rw [h3, h4, h5, RR_stop (by simp only [List.length_cons, List.length_nil]; omega), List.append_nil]
  rfl
/-! ### the pairs of the laid runs -/
def lfOf (r : Rn) : Lf := ⟨r, r.a, r.a + r.n⟩
def mkP (y r : Rn) : Pr := ⟨y.a, r.a + r.n, decide (r.n = 2)⟩
theorem fold_open : ∀ (l : List Rn) (L : List Lf) (o : List Pr), (∀ r, r ∈ l → r.o = true ∧ r.k = false ∧ 1 ≤ r.n) → l.foldl runX (L, o) = (L ++ l.map lfOf, o)
  | [], L, o, _ => by simp
  | r :: l, L, o, h => by
    obtain ⟨h1, h2, h3⟩ := h r List.mem_cons_self
    have e : runX (L, o) r = (L ++ [lfOf r], o) := by
      unfold runX
      rw [closeX_stop (fun hh => by have hh := hh.1; rw [show (⟨r, r.a, r.a + r.n⟩ : Lf).r.k = r.k from rfl, h2] at hh; cases hh)]
      show (pushX L ⟨r, r.a, r.a + r.n⟩, o) = _
      unfold pushX
      rw [if_pos ⟨h1, by show r.a < r.a + r.n; omega⟩]
      rfl
    rw [List.foldl_cons, e, fold_open l _ o (fun q hq => h q (List.mem_cons_of_mem _ hq))]
    simp
/-- A run that opens and one that closes belong together. -/
structure Mat (y r : Rn) : Prop where
  c : y.c = r.c
  n : y.n = r.n
  np : 1 ≤ r.n ∧ r.n ≤ 2
  yk : y.k = false
  ro : r.o = false
  rk : r.k = true
theorem run_close {L : List Lf} {y r : Rn} {o : List Pr} (h : Mat y r) : runX (L ++ [lfOf y], o) r = (L, o ++ [mkP y r]) := by
  have hnp := h.np
  have hft : fitB y r = true := by
    unfold fitB
    rw [h.yk, h.ro, h.c]
    simp
  have hfa : fitAt (L ++ [lfOf y]) r (L ++ [lfOf y]).length = some L.length := by
    rw [List.length_append, List.length_singleton, fitAt, List.getElem?_append_right (Nat.le_refl _), Nat.sub_self]
    simp only [List.getElem?_cons_zero]
    rw [if_pos (show fitB (lfOf y).r r = true from hft)]
  have htw : twoB (lfOf y) ⟨r, r.a, r.a + r.n⟩ = r.n := by
    unfold twoB lfOf
    simp only
    rw [h.n]
    split <;> omega
  have hy : (L ++ [lfOf y])[L.length]? = some (lfOf y) := by rw [List.getElem?_append_right (Nat.le_refl _), Nat.sub_self]; rfl
  obtain ⟨g, hg⟩ : ∃ g, r.n.toNat = g + 1 := ⟨r.n.toNat - 1, by omega⟩
  have htk : takeL (L ++ [lfOf y]) L.length (lfOf y) ⟨r, r.a, r.a + r.n⟩ = L := by
    unfold takeL
    rw [htw, if_pos (by show y.a = y.a + y.n - r.n; rw [h.n]; omega), List.take_left]
  unfold runX
  simp only
  rw [hg, closeX_some (X := ⟨r, r.a, r.a + r.n⟩) ⟨h.rk, by show r.a < r.a + r.n; omega⟩ hfa hy, htk, htw]
  rw [closeX_stop (fun hh => by have hh := hh.2; simp only at hh; omega)]
  unfold pushX
  rw [if_neg (fun hh => by have hh := hh.1; simp only at hh; rw [h.ro] at hh; cases hh)]
  unfold mkP lfOf
  simp only
  rw [show y.a + y.n - r.n = y.a by rw [h.n]; omega]
theorem fold_close : ∀ (zs cs : List Rn) (o : List Pr), zs.length = cs.length → (∀ (k : Nat) (z c : Rn), zs[k]? = some z → cs[k]? = some c → Mat z c) → cs.foldl runX (zs.reverse.map lfOf, o) = ([], o ++ List.zipWith mkP zs cs)
  | [], [], o, _, _ => by simp
  | z :: zs, c :: cs, o, hl, h => by
    have hm := h 0 z c rfl rfl
    rw [List.foldl_cons, List.reverse_cons, List.map_append, List.map_singleton, run_close hm, fold_close zs cs _ (by simpa using hl) (fun k z' c' h1 h2 => h (k + 1) z' c' (by simpa using h1) (by simpa using h2)), List.zipWith_cons_cons, List.append_assoc]
    rfl
theorem opR_at : ∀ (ms : List Int) (p : Int) (j : Nat) (m : Int), ms[j]? = some m → (opR p ms)[j]? = some ⟨p + lenS (ms.take j) + 1, nS m, cS m, true, false⟩
  | [], p, j, m, h => by simp at h
  | x :: ms, p, 0, m, h => by
    simp at h
    subst h
    simp [opR, lenS]
  | x :: ms, p, j + 1, m, h => by
    have := opR_at ms (p + (2 + nS x)) j m (by simpa using h)
    rw [opR, List.getElem?_cons_succ, this, List.take_succ_cons, lenS]
    congr 2
    omega
theorem clR_at : ∀ (ms : List Int) (p : Int) (j : Nat) (m : Int), ms[j]? = some m → (clR p ms)[j]? = some ⟨p + lenS (ms.take j) + 1, nS m, cS m, false, true⟩
  | [], p, j, m, h => by simp at h
  | x :: ms, p, 0, m, h => by
    simp at h
    subst h
    simp [clR, lenS]
  | x :: ms, p, j + 1, m, h => by
    have := clR_at ms (p + (2 + nS x)) j m (by simpa using h)
    rw [clR, List.getElem?_cons_succ, this, List.take_succ_cons, lenS]
    congr 2
    omega
theorem opR_len : ∀ (ms : List Int) (p : Int), (opR p ms).length = ms.length
  | [], _ => rfl
  | m :: ms, p => by rw [opR, List.length_cons, List.length_cons, opR_len ms]
theorem clR_len : ∀ (ms : List Int) (p : Int), (clR p ms).length = ms.length
  | [], _ => rfl
  | m :: ms, p => by rw [clR, List.length_cons, List.length_cons, clR_len ms]
/-- May there be such runs? (Places that rise.) -/
theorem may_op : ∀ (ms : List Int) (p q : Int) (l : List Rn), q ≤ p → 0 ≤ p → p + lenS ms ≤ 100000 → mayB (p + lenS ms) l = true → (∀ q', q' ≤ p + lenS ms → mayB q' l = true) → mayB q (opR p ms ++ l) = true
  | [], p, q, l, hq, h0, hb, hl, hl2 => by
    rw [lenS, Int.add_zero] at hl2
    exact hl2 q hq
  | m :: ms, p, q, l, hq, h0, hb, hl, hl2 => by
    have hnp := nS_pos m
    have hA := lenS_le ms
    have hc := cS_is m
    rw [lenS] at hb hl hl2
    rw [opR, List.cons_append, mayB]
    simp only [Bool.and_eq_true, Bool.not_eq_true']
    refine ⟨?_, may_op ms (p + (2 + nS m)) _ l (by first | omega | (simp only; omega)) (by omega) (by omega) (by rw [show p + (2 + nS m) + lenS ms = p + (2 + nS m + lenS ms) by omega]; exact hl) (fun q' hq' => hl2 q' (by omega))⟩
    unfold badB
    simp only [Bool.or_eq_false_iff, Bool.and_eq_false_iff, decide_eq_false_iff_not]
    omega
theorem may_cl : ∀ (ms : List Int) (p q : Int), q ≤ p → 0 ≤ p → p + lenS ms ≤ 100000 → mayB q (clR p ms) = true
  | [], p, q, _, _, _ => rfl
  | m :: ms, p, q, hq, h0, hb => by
    have hnp := nS_pos m
    have hA := lenS_le ms
    have hc := cS_is m
    rw [lenS] at hb
    rw [clR, mayB]
    simp only [Bool.and_eq_true, Bool.not_eq_true']
    refine ⟨?_, may_cl ms (p + (2 + nS m)) _ (by first | omega | (simp only; omega)) (by omega) (by omega)⟩
    unfold badB
    simp only [Bool.or_eq_false_iff, Bool.and_eq_false_iff, decide_eq_false_iff_not]
    omega
/-- The wanted pair of sign j. -/
def wantP (p : Int) (ms : List Int) (j : Nat) (m : Int) : Pr := ⟨p + lenS (ms.take j) + 1, p + lenS ms + 3 + lenS (ms.drop (j + 1)).reverse + 1 + nS m, decide (nS m = 2)⟩
theorem laid_pairs {ms : List Int} {p : Int} (hp : 0 ≤ p) (hpb : p ≤ 1000) (hlm : ms.length ≤ 30) (W : List Pr) (hwl : W.length = ms.length) (hw : ∀ j m, ms[j]? = some m → W[j]? = some (wantP p ms j m)) :
    (pairsU (opR p ms ++ clR (p + lenS ms + 3) ms.reverse)).Perm W := by
  have hA := lenS_le ms
  have hC := lenS_le ms.reverse
  rw [List.length_reverse] at hC
  have hmay : mayB 0 (opR p ms ++ clR (p + lenS ms + 3) ms.reverse) = true := may_op ms p 0 _ hp hp (by omega) (may_cl _ _ _ (by omega) (by omega) (by omega)) (fun q' hq' => may_cl _ _ _ (by omega) (by omega) (by omega))
  unfold pairsU
  rw [if_pos hmay]
  have hop : ∀ r, r ∈ opR p ms → r.o = true ∧ r.k = false ∧ 1 ≤ r.n := fun r hr => by
    obtain ⟨j, hj⟩ := List.getElem?_of_mem hr
    have hjl := (List.getElem?_eq_some_iff.1 hj).1
    rw [opR_len] at hjl
    have := opR_at ms p j _ (List.getElem?_eq_getElem hjl)
    rw [this] at hj
    injection hj with hj
    subst hj
    exact ⟨rfl, rfl, (nS_pos _).1⟩
  have hpl : pairsL (opR p ms ++ clR (p + lenS ms + 3) ms.reverse) = ([], List.zipWith mkP (opR p ms).reverse (clR (p + lenS ms + 3) ms.reverse)) := by
    unfold pairsL
    rw [List.foldl_append, fold_open _ [] [] hop, List.nil_append]
    have h := fold_close (opR p ms).reverse (clR (p + lenS ms + 3) ms.reverse) [] (by rw [List.length_reverse, opR_len, clR_len, List.length_reverse]) (fun k z c hz hc => by
      have hk := (List.getElem?_eq_some_iff.1 hz).1
      rw [List.length_reverse, opR_len] at hk
      rw [List.getElem?_reverse (by rw [opR_len]; exact hk), opR_len] at hz
      have h1 := opR_at ms p (ms.length - 1 - k) _ (List.getElem?_eq_getElem (by omega))
      have h2 := clR_at ms.reverse (p + lenS ms + 3) k (ms[ms.length - 1 - k]'(by omega)) (by rw [List.getElem?_reverse hk]; exact List.getElem?_eq_getElem (by omega))
      rw [h1] at hz
      rw [h2] at hc
      injection hz with hz
      injection hc with hc
      subst hz
      subst hc
      exact ⟨rfl, rfl, nS_pos _, rfl, rfl, rfl⟩)
    rw [List.reverse_reverse, List.nil_append] at h
    exact h
  rw [hpl]
  have hrev : List.zipWith mkP (opR p ms).reverse (clR (p + lenS ms + 3) ms.reverse) = W.reverse := by
    apply List.ext_getElem?
    intro k
    by_cases hk : k < ms.length
    · rw [List.getElem?_reverse (by omega), hwl, hw (ms.length - 1 - k) _ (List.getElem?_eq_getElem (by omega)), List.getElem?_zipWith, List.getElem?_reverse (by rw [opR_len]; exact hk), opR_len, opR_at ms p (ms.length - 1 - k) _ (List.getElem?_eq_getElem (by omega)), clR_at ms.reverse (p + lenS ms + 3) k (ms[ms.length - 1 - k]'(by omega)) (by rw [List.getElem?_reverse hk]; exact List.getElem?_eq_getElem (by omega))]
      simp only
      unfold mkP wantP
      simp only
      rw [show ms.length - 1 - k + 1 = ms.length - k by omega, List.take_reverse]
    · rw [List.getElem?_eq_none (by rw [List.length_zipWith, List.length_reverse, opR_len, clR_len, List.length_reverse]; omega), List.getElem?_eq_none (by rw [List.length_reverse]; omega)]
  rw [hrev]
  exact List.reverse_perm W
theorem lenS_take_lt {ms : List Int} : ∀ {i j : Nat}, i < j → j ≤ ms.length → lenS (ms.take i) < lenS (ms.take j) := by
  intro i j hij hj
  obtain ⟨m, hm⟩ : ∃ m, ms[i]? = some m := ⟨_, List.getElem?_eq_getElem (by omega)⟩
  have h1 : ms.take j = ms.take (i + 1) ++ (ms.take j).drop (i + 1) := by
    rw [show ms.take (i + 1) = (ms.take j).take (i + 1) by rw [List.take_take, Nat.min_eq_left (by omega)], List.take_append_drop]
  rw [h1, lenS_app, take_snoc hm, lenS_app]
  have := lenS_le ((ms.take j).drop (i + 1))
  have := nS_pos m
  rw [lenS, lenS]
  omega
theorem want_strict {ms : List Int} {p : Int} (W : List Pr) (hwl : W.length = ms.length) (hw : ∀ j m, ms[j]? = some m → W[j]? = some (wantP p ms j m)) : W.Pairwise fun x y => x.a < y.a := by
  rw [List.pairwise_iff_getElem]
  intro i j hi hj hij
  have h1 := hw i _ (List.getElem?_eq_getElem (by omega))
  have h2 := hw j _ (List.getElem?_eq_getElem (by omega))
  rw [List.getElem?_eq_getElem hi] at h1
  rw [List.getElem?_eq_getElem hj] at h2
  injection h1 with h1
  injection h2 with h2
  rw [h1, h2]
  unfold wantP
  simp only
  have := lenS_take_lt (ms := ms) hij (by omega)
  omega
end Go.Proofs.Ytjfpkldknchnkaa.Me
