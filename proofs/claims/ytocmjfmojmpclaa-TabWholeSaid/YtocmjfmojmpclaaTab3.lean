/- What tab.Blank comes to: whether all bytes from a place on are blanks, for a line of at most 2^47 - 4096 bytes (what the reading of an argument gives). -/
import Derived.Test.YtocmjfmojmpclaaTab1
namespace Go.Proofs.Ytocmjfmojmpclaa.PTab
open Go.RowKit Go.Proofs.YtocmjfmojmpclaaW.PrintWords Go.Proofs.YtocmjfmojmpclaaW.PrintLast Go.Proofs.YtocmjfmojmpclaaW.PrintMore

def blankAt (x : Int) : Bool := decide (x = 32) || (decide (9 ≤ x) && decide (x ≤ 13))
theorem blankAt_mid {x : Int} (h : 9 ≤ x) (h' : x ≤ 13) : blankAt x = true := by simp [blankAt, h, h']
/-- Are the n bytes from a place on blanks? -/
def blanks : Nat → ByteArray → Int → Bool
  | 0, _, _ => true
  | n + 1, s, i => blankAt (bt s i) && blanks n s (i + 1)
def tab_Blank.f (a0 : ByteArray) (a1 : Int) : Option Bool :=
  if a0.size ≤ 140737488351232 then (if 0 ≤ a1 ∧ a1 ≤ (a0.size : Int) then some (blanks (a0.size - a1.toNat) a0 a1) else some false) else none

theorem bytesWorld_below (w : World) (e : TypeId) (s : ByteArray) : Below w.heap.size w (Lib.bytesWorld w e s) :=
  ⟨rfl, rfl, rfl, by rw [Lib.bytesWorld_size]; omega, fun k hk => Lib.bytesWorld_at_old w e s k hk⟩

theorem getD_extract (s : ByteArray) (a : Int) (j : Nat) (h0 : 0 ≤ a) (hj : j < s.size - a.toNat) :
    (((s.extract a.toNat s.size).data.toList.getD j 0).toNat : Int) = bt s (a + j) := by
  unfold bt
  have e : (a + j).toNat = a.toNat + j := by omega
  rw [dif_pos (by omega)]
  rw [ByteArray.data_extract, Array.toList_extract, List.extract_eq_take_drop]
  simp only [e]
  rw [List.getD_eq_getElem?_getD]
  have hl : a.toNat + j < s.data.toList.length := by simp only [Array.length_toList]; show a.toNat + j < s.size; omega
  rw [List.getElem?_take_of_lt (by omega), List.getElem?_drop, List.getElem?_eq_getElem hl]
  rfl

set_option maxHeartbeats 1000000 in
theorem tab_Blank.yes (a0 : ByteArray) (a1 : Int) (w : World) (hs : a0.size ≤ 140737488351232)
    (h1 : 0 ≤ a1) (h2 : a1 ≤ (a0.size : Int)) :
    Calls Try.prog 10 #[.string a0, .int .i64 a1] w fun e w' => 
      e = .returned (.bool (blanks (a0.size - a1.toNat) a0 a1)) ∧ Below w.heap.size w w' := by
  have hcv := fun W t => Lib.run_convert_string_bytes (P := Try.prog) W 9 30 5 t Try.underlying9 Try.underlying30 Try.underlying5
  obtain ⟨r, hr⟩ : ∃ r, blanks (a0.size - a1.toNat) a0 a1 = r := ⟨_, rfl⟩
  rw [hr]
  have HR := Aside0.mk hr
  clear hr
  obtain ⟨N, hN⟩ : ∃ N, a0.size - a1.toNat = N := ⟨_, rfl⟩
  rw [hN] at HR
  have HN := Aside0.mk hN
  have hN2 : N ≤ 140737488351232 := by omega
  clear hN
  go_enter Try.func10, Try.ntmps10
  go_wp2
  clear hcv
  rw [HN.out]
  have HB := Aside0.mk (bytesWorld_below w 5 (a0.extract a1.toNat a0.size))
  go_loopg [20] N (fun g v20 wr => ∃ k : Nat, v20 = .int .i64 k ∧ k ≤ N ∧ wr = Lib.bytesWorld w 5 (a0.extract a1.toNat a0.size) ∧ Aside0 (g = N - k) ∧ Aside0 (blanks g a0 (a1 + k) = r))
  case atStart => exact ⟨0, rfl, by omega, rfl, ⟨by omega⟩, ⟨by simpa using HR.out⟩⟩
  case round =>
    obtain ⟨k, rfl, hk, rfl, hg, HR⟩ := hrel
    by_cases hlt : k < N
    · obtain ⟨g, rfl⟩ : ∃ m, gk = m + 1 := ⟨gk - 1, by have := hg.out; omega⟩
      have HC := Aside0.mk ((Lib.bytesWorld_cell w 5 (a0.extract a1.toNat a0.size) k (by have := HN.out; simp [ByteArray.size_extract]; omega)).trans (by rw [getD_extract a0 a1 k h1 (by have := HN.out; omega)]))
      have HG : Aside0 (g = N - (k + 1)) := ⟨by have := hg.out; omega⟩
      have hr := HR.out
      clear HR
      simp only [blanks] at hr
      obtain ⟨W, hW⟩ : ∃ W, Lib.bytesWorld w 5 (a0.extract a1.toNat a0.size) = W := ⟨_, rfl⟩
      rw [hW] at HC ⊢
      have HW := Aside0.mk hW
      clear hW
      have hb := bt_range a0 (a1 + k)
      obtain ⟨x, hx⟩ : ∃ x, bt a0 (a1 + k) = x := ⟨_, rfl⟩
      rw [hx] at hr HC hb
      clear hx
      have hc := HC.out
      clear HC
      by_cases c1 : x = 32
      · have t1 : (x != 32) = false := bne_eq_false_iff_eq.mpr c1
        have hr' : Aside0 (blanks g a0 (a1 + (k + 1 : Nat)) = r) := ⟨by simpa [blankAt, c1, Int.add_assoc] using hr⟩
        clear hr c1
        go_wp2
        go_roundg g
        case measure => exact Nat.lt_succ_self _
        case rel => exact ⟨k + 1, by go_num, hlt, HW.out.symm, HG, hr'⟩
      · have t1 : (x != 32) = true := bne_iff_ne.mpr c1
        by_cases c2 : x < 9
        · have hr' : Aside0 (false = r) := ⟨by rw [← hr]; simp [blankAt, c1]; omega⟩
          clear hr c1
          go_wp2
          go_ret
          exact ⟨by rw [← hr'.out]; rfl, by rw [← HW.out]; exact HB.out⟩
        · by_cases c3 : 13 < x
          · have hr' : Aside0 (false = r) := ⟨by rw [← hr]; simp [blankAt, c1]; omega⟩
            clear hr c1
            go_wp2
            go_ret
            exact ⟨by rw [← hr'.out]; rfl, by rw [← HW.out]; exact HB.out⟩
          · have hr' : Aside0 (blanks g a0 (a1 + (k + 1 : Nat)) = r) := ⟨by rw [← hr, blankAt_mid (by omega) (by omega)]; simp [Int.add_assoc]⟩
            clear hr c1
            go_wp2
            go_roundg g
            case measure => exact Nat.lt_succ_self _
            case rel => exact ⟨k + 1, by go_num, hlt, HW.out.symm, HG, hr'⟩
    · have hr' : Aside0 (true = r) := ⟨by rw [← HR.out, show gk = 0 from by have := hg.out; omega]; rfl⟩
      go_wp2
      go_ret
      exact ⟨by rw [← hr'.out]; rfl, HB.out⟩

set_option maxHeartbeats 1000000 in
theorem tab_Blank.no (a0 : ByteArray) (a1 : Int) (w : World) (h : a1 < 0 ∨ (0 ≤ a1 ∧ (a0.size : Int) < a1)) :
    Calls Try.prog 10 #[.string a0, .int .i64 a1] w fun e w' => 
      e = .returned (.bool false) ∧ Below w.heap.size w w' := by
  have HB := Aside0.mk (Below.refl w.heap.size w)
  rcases h with h | ⟨h, h'⟩
  all_goals
    go_enter Try.func10, Try.ntmps10
    go_wp2
    go_ret
    exact ⟨rfl, HB.out⟩

theorem tab_Blank.calls (a0 : ByteArray) (a1 : Int) (r : Bool) (w : World) (h : tab_Blank.f a0 a1 = some r) :
    Calls Try.prog 10 #[.string a0, .int .i64 a1] w fun e w' => e = .returned (.bool r) ∧ Below w.heap.size w w' := by
  unfold tab_Blank.f at h
  by_cases hs : a0.size ≤ 140737488351232
  · rw [if_pos hs] at h
    by_cases hc : 0 ≤ a1 ∧ a1 ≤ (a0.size : Int)
    · rw [if_pos hc] at h
      obtain rfl := Option.some.inj h
      exact tab_Blank.yes a0 a1 w hs hc.1 hc.2
    · rw [if_neg hc] at h
      obtain rfl := Option.some.inj h
      exact tab_Blank.no a0 a1 w (by omega)
  · rw [if_neg hs] at h
    cases h

end Go.Proofs.Ytocmjfmojmpclaa.PTab
