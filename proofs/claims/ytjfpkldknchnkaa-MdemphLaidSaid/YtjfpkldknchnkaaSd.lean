/- MdemphSides walked. -/
import Derived.Test.YtjfpkldknchnkaaLw
import Derived.Laws.BytesArg
namespace Go.Proofs.Ytjfpkldknchnkaa.Me
open Go.RowKit Go.Proofs.YtjfpkldknchnkaaW.PrintWords Go.Proofs.YtjfpkldknchnkaaW.PrintLast Go.Proofs.YtjfpkldknchnkaaW.PrintMore
attribute [local go_sem] max2_int min2_int max_two min_two max_three min_three max_four min_four
set_option linter.unusedVariables false
set_option linter.unusedSimpArgs false
theorem one_at {w : World} {g : Nat} {c : Int} (h : w.heap[g]? = some (.cells #[.int .u8 c] 5 (0, 0))) : ∀ i, i < 1 → w.cell? ⟨g, 0 + i, none⟩ = some (.int .u8 ([c].getD i 0)) := by
  intro i hi
  obtain rfl : i = 0 := by omega
  exact cell_of_row _ _ _ _ _ _ h
theorem u8_of (a : Int) (h : (Lit.int .u8 a).wf = true) : 0 ≤ a ∧ a ≤ 255 := by simpa [Lit.wf, IntKind.min, IntKind.max, IntKind.signed, IntKind.bits] using h
def kB : Kd Int := flat 1 (fun x => [.int .u8 x]) (fun _ => rfl) (fun x u hu => by simp at hu; rw [hu]; rfl)
theorem info5 : (Try.prog.info? 5).map (fun i => (i.zero, i.size, i.bytes)) = some (some (.int .u8 0), 1, 1) := by kernel_rfl
theorem nums_app (A B : List Int) : strOfNums A ++ strOfNums B = strOfNums (A ++ B) := by
  apply ByteArray.ext
  unfold strOfNums
  simp
theorem nums_size (xs : List Int) : (strOfNums xs).size = xs.length := by
  unfold strOfNums
  simp [ByteArray.size]
theorem nums_bt {xs : List Int} {k : Nat} {x : Int} (h : xs[k]? = some x) (hx : 0 ≤ x ∧ x ≤ 255) : bt (strOfNums xs) (k : Int) = x := by
  obtain ⟨h1, h2⟩ := List.getElem?_eq_some_iff.1 h
  have hk : k < (strOfNums xs).size := by rw [nums_size]; exact h1
  rw [← bt_nat (strOfNums xs) k hk]
  have he : (strOfNums xs)[k]'hk = UInt8.ofNat x.toNat := by
    have h3 : (strOfNums xs)[k]'hk = ((xs.map fun n => UInt8.ofNat n.toNat).toArray)[k]'(by rw [List.size_toArray, List.length_map]; exact h1) := rfl
    rw [h3]
    simp [h2]
  rw [he]
  have : (UInt8.ofNat x.toNat).toNat = x.toNat % 256 := by simp
  rw [this]
  omega
abbrev sideL (x c y : Int) (n : Nat) : List Int := x :: (List.replicate n c ++ [y, 120])
theorem side_at {x c y : Int} {n : Nat} : (sideL x c y n)[0]? = some x ∧ (∀ k, 1 ≤ k → k < n + 1 → (sideL x c y n)[k]? = some c) ∧ (sideL x c y n)[n + 1]? = some y ∧ (sideL x c y n)[n + 2]? = some 120 := by
  refine ⟨rfl, fun k h1 h2 => ?_, ?_, ?_⟩
  · obtain ⟨j, rfl⟩ : ∃ j, k = j + 1 := ⟨k - 1, by omega⟩
    rw [List.getElem?_cons_succ, List.getElem?_append_left (by rw [List.length_replicate]; omega), List.getElem?_replicate, if_pos (by omega)]
  · rw [List.getElem?_cons_succ, List.getElem?_append_right (by rw [List.length_replicate]; omega), List.length_replicate, Nat.sub_self]
    rfl
  · rw [List.getElem?_cons_succ, List.getElem?_append_right (by rw [List.length_replicate]; omega), List.length_replicate, Nat.add_sub_cancel_left]
    rfl
theorem side_look {x c y : Int} {n : Nat} (hn : 1 ≤ n) (hx : 0 ≤ x ∧ x ≤ 255) (hy : 0 ≤ y ∧ y ≤ 255) (hc : c = 42 ∨ c = 95) (x1 : x ≠ c) (y1 : y ≠ c) (x2 : x ≠ 10) (y2 : y ≠ 10) :
    LookR (strOfNums (sideL x c y n)) 0 1 ((n : Int) + 2) ⟨1, n, c, opensB c y x, closesB c y x⟩ true := by
  obtain ⟨s0, s1, s2, s3⟩ := side_at (x := x) (c := c) (y := y) (n := n)
  have hcr : 0 ≤ c ∧ c ≤ 255 := by omega
  have b0 : bt (strOfNums (sideL x c y n)) 0 = x := nums_bt s0 hx
  have b1 : ∀ k : Int, 1 ≤ k → k < (n : Int) + 1 → bt (strOfNums (sideL x c y n)) k = c := fun k k0 k1 => by
    obtain ⟨j, rfl⟩ : ∃ j : Nat, k = j := ⟨k.toNat, by omega⟩
    exact nums_bt (s1 j (by omega) (by omega)) hcr
  have b2 : bt (strOfNums (sideL x c y n)) ((n : Int) + 1) = y := by
    have := nums_bt s2 hy
    rw [show ((n + 1 : Nat) : Int) = (n : Int) + 1 by omega] at this
    exact this
  have b3 : bt (strOfNums (sideL x c y n)) ((n : Int) + 2) = 120 := by
    have := nums_bt s3 (by omega)
    rw [show ((n + 2 : Nat) : Int) = (n : Int) + 2 by omega] at this
    exact this
  have hsz : (strOfNums (sideL x c y n)).size = n + 3 := by rw [nums_size]; simp
  refine ⟨(n : Int) + 3, (n : Int) + 2, .inl ⟨fun k k0 k1 => ?_, by rw [hsz]; omega⟩, by rw [if_neg (by omega)], .inr ⟨⟨by omega, by omega, by omega, ?_, fun h => ?_⟩, rfl, n, ⟨by omega, by omega, fun j j0 j1 => ?_, .inr ⟨by omega, ?_⟩⟩, ?_⟩⟩
  · rw [hsz] at k1
    by_cases e0 : k = 0
    · rw [e0, b0]; exact x2
    · by_cases e1 : k < (n : Int) + 1
      · rw [b1 k (by omega) e1]; omega
      · by_cases e2 : k = (n : Int) + 1
        · rw [e2, b2]; exact y2
        · rw [show k = (n : Int) + 2 by omega, b3]; decide
  · rw [b1 1 (by omega) (by omega)]; exact hc
  · have h2 := h.2
    rw [show (1 : Int) - 1 = 0 from rfl, b0, b1 1 (by omega) (by omega)] at h2
    exact x1 h2
  · rw [b1 j (by omega) (by omega), b1 1 (by omega) (by omega)]
  · rw [show (1 : Int) + (n : Int) = (n : Int) + 1 by omega, b2, b1 1 (by omega) (by omega)]; exact y1
  · have o1 : ofB (bt (strOfNums (sideL x c y n))) 0 ((n : Int) + 2) (1 + (n : Int)) = y := by
      unfold ofB
      rw [if_neg (by omega), show (1 : Int) + (n : Int) = (n : Int) + 1 by omega]; exact b2
    have o2 : ofB (bt (strOfNums (sideL x c y n))) 0 ((n : Int) + 2) (1 - 1) = x := by
      unfold ofB
      rw [if_neg (by omega)]; exact b0
    rw [o1, o2, b1 1 (by omega) (by omega)]
theorem side_str (x c y : Int) (n : Nat) : strOfNums [x] ++ strOfNums (List.replicate n c) ++ strOfNums [y] ++ ⟨#[120]⟩ = strOfNums (sideL x c y n) := by
  rw [show (⟨#[120]⟩ : ByteArray) = strOfNums [120] from rfl, nums_app, nums_app, nums_app]
  simp
theorem formB {w : World} {ok : Nat → Prop} {v : Value} {xs : List Int} (h : kB.R 5 w 0 ok v xs) (h1 : 1 ≤ xs.length) : ∃ g cap, v = .slice (some ⟨g, 0, none⟩) xs.length cap ∧ xs.length ≤ cap := by
  obtain ⟨_, inner, hown, _⟩ := h
  rcases hown.2 with ⟨_, h2⟩ | ⟨g, cap, cur, h2, _, _, h3, _⟩
  · omega
  · exact ⟨g, cap, h2, h3⟩
theorem atB {w : World} {ok : Nat → Prop} {g n cap : Nat} {xs : List Int} (h : kB.R 5 w 0 ok (.slice (some ⟨g, 0, none⟩) n cap) xs) {i : Nat} (hi : i < xs.length) : w.cell? ⟨g, 0 + i, none⟩ = some (.int .u8 (xs.getD i 0)) := by
  have hc := (Kd.R_reads' h).2.2
  obtain ⟨ad, hA, hr⟩ := hc.2.2 (by omega)
  injection hA with hA
  subst hA
  obtain ⟨c, _, hk, hcell⟩ := hr i xs[i] (List.getElem?_eq_getElem hi)
  have h := hcell 0 (.int .u8 xs[i]) (by rw [show c = [.int .u8 xs[i]] from hk]; rfl)
  rw [add_plain] at h
  rw [Nat.zero_add, List.getD_eq_getElem?_getD, List.getElem?_eq_getElem hi]
  simpa [kB, flat] using h
set_option maxRecDepth 100000 in
set_option maxHeartbeats 16000000 in
theorem sides_c (x y m : Int) (un : Bool) (w : World) (hx : 0 ≤ x ∧ x ≤ 255) (hy : 0 ≤ y ∧ y ≤ 255) (hm : 0 ≤ m ∧ m ≤ 255) : Calls Try.prog 7 #[.int .u8 x, .int .u8 y, .int .u8 m, .bool un] w fun e w' => BoolP w true e w' := by
  have HXX := Aside0.mk hx
  have HYY := Aside0.mk hy
  obtain ⟨c, hcu⟩ : ∃ c : Int, c = (if un = true then 95 else 42) := ⟨_, rfl⟩
  have hc : c = 42 ∨ c = 95 := by rw [hcu]; split <;> omega
  go_enter Try.func7, Try.ntmps7
  go_upto_if 17 with (fail)
  go_cut [9] from 17 (fun v9 wc => v9 = .int .u8 c ∧ Aside0 (w = wc))
  case first =>
    cases un
    · have hc2 : c = 42 := hcu
      clear hcu hc
      go_wp2_with (fail)
      go_meet
      case rel => exact ⟨by rw [hc2], ⟨rfl⟩⟩
    · have hc2 : c = 95 := hcu
      clear hcu hc
      go_wp2_with (fail)
      go_meet
      case rel => exact ⟨by rw [hc2], ⟨rfl⟩⟩
  case rest =>
    obtain ⟨rfl, HW1⟩ := hcut
    obtain rfl := HW1.out
    have HCC := Aside0.mk hc
    clear hcu hc
    go_upto_region 4 with (fail)
    go_cut [37] from 17 (fun v37 wc => ∃ g : Bool, v37 = .bool g ∧ Aside0 (w = wc) ∧ Aside0 (g = false → x ≠ c ∧ y ≠ c ∧ x ≠ 10 ∧ y ≠ 10 ∧ y ≠ 13))
    case first =>
      by_cases g1 : x = c
      · have q1 : (x == c) = true := by simpa using g1
        clear g1
        go_wp2_with (fail)
        go_meet
        case rel => exact ⟨true, rfl, ⟨rfl⟩, ⟨fun h => by cases h⟩⟩
      have G1 := Aside0.mk g1
      have q1 : (x == c) = false := by simpa using g1
      clear g1
      by_cases g2 : y = c
      · have q2 : (y == c) = true := by simpa using g2
        clear g2
        go_wp2_with (fail)
        go_meet
        case rel => exact ⟨true, rfl, ⟨rfl⟩, ⟨fun h => by cases h⟩⟩
      have G2 := Aside0.mk g2
      have q2 : (y == c) = false := by simpa using g2
      clear g2
      by_cases g3 : x = 10
      · have q3 : (x == 10) = true := by simpa using g3
        clear g3
        go_wp2_with (fail)
        go_meet
        case rel => exact ⟨true, rfl, ⟨rfl⟩, ⟨fun h => by cases h⟩⟩
      have G3 := Aside0.mk g3
      have q3 : (x == 10) = false := by simpa using g3
      clear g3
      by_cases g4 : y = 10
      · have q4 : (y == 10) = true := by simpa using g4
        clear g4
        go_wp2_with (fail)
        go_meet
        case rel => exact ⟨true, rfl, ⟨rfl⟩, ⟨fun h => by cases h⟩⟩
      have G4 := Aside0.mk g4
      have q4 : (y == 10) = false := by simpa using g4
      clear g4
      by_cases g5 : y = 13
      · have q5 : (y == 13) = true := by simpa using g5
        clear g5
        go_wp2_with (fail)
        go_meet
        case rel => exact ⟨true, rfl, ⟨rfl⟩, ⟨fun h => by cases h⟩⟩
      have G5 := Aside0.mk g5
      have q5 : (y == 13) = false := by simpa using g5
      clear g5
      go_wp2_with (fail)
      go_meet
      case rel => exact ⟨false, rfl, ⟨rfl⟩, ⟨fun _ => ⟨G1.out, G2.out, G3.out, G4.out, G5.out⟩⟩⟩
    case rest =>
      obtain ⟨g, rfl, HWc, HG⟩ := hcut
      obtain rfl := HWc.out
      cases g
      case true =>
        go_wp2_with (go_at_call 11; refine (reads_c w).mono ?_; rintro _ w9 ⟨rfl, h9⟩; have HB9 := Aside0.mk h9; clear h9)
        go_ret
        exact ⟨rfl, HB9.out⟩
      case false =>
        obtain ⟨g1, g2, g3, g4, g5⟩ := HG.out rfl
        have G1 := Aside0.mk g1
        have G2 := Aside0.mk g2
        have G3 := Aside0.mk g3
        have G4 := Aside0.mk g4
        clear g1 g2 g3 g4 g5
        obtain ⟨q, hq⟩ : ∃ q : Nat, m.tmod 50 = (q : Int) := ⟨(m.tmod 50).toNat, by have : 0 ≤ m.tmod 50 := Int.tmod_nonneg _ hm.1; omega⟩
        have hq2 : q < 50 := by
          have h1 := Int.tmod_lt_of_pos m (show (0 : Int) < 50 by decide)
          omega
        have hw1 : IntKind.u8.wrap (q : Int) = (q : Int) := by unfold IntKind.wrap; simp [IntKind.bits, IntKind.signed]; omega
        have hw2 : IntKind.i64.wrap (q : Int) = (q : Int) := IntWalk.i64_in _ (by omega)
        obtain ⟨n, hn⟩ : ∃ n : Nat, n = q + 1 := ⟨_, rfl⟩
        have hw3 : IntKind.i64.wrap (1 + (q : Int)) = (n : Int) := by rw [show 1 + (q : Int) = (n : Int) by omega]; exact IntWalk.i64_in _ (by omega)
        have hn1 : 1 ≤ n := by omega
        have hn2 : n ≤ 50 := by omega
        clear hn hq2
        go_upto_block 0 with (fail)
        clear hq hw1 hw2 hw3
        go_cut [11] from 17 (fun v11 wc => ∃ (A : Option Addr) (c3 : Nat), v11 = .slice A n c3 ∧ Aside0 (kB.R 5 wc 0 (fun j => w.heap.size ≤ j) (.slice A n c3) (List.replicate n c)) ∧ Aside0 (Below w.heap.size w wc))
        case first =>
          go_wp2_with (fail)
          go_loopg [11, 12] n (fun gk v11 v12 wr => ∃ (k : Nat) (A : Option Addr) (c3 : Nat), v12 = .int .i64 (k : Int) ∧ v11 = .slice A k c3 ∧ Aside0 (k + gk = n) ∧ Aside0 (kB.R 5 wr 0 (fun j => w.heap.size ≤ j) (.slice A k c3) (List.replicate k c)) ∧ Aside0 (Below w.heap.size w wr))
          case atStart => exact ⟨0, none, 0, rfl, rfl, ⟨by omega⟩, ⟨Kd.R_nil _ _ _ _ _⟩, ⟨Below.refl _ w⟩⟩
          case round =>
            obtain ⟨k, A, c3, rfl, rfl, HK, HR, HB⟩ := hrel
            by_cases hkn : k < n
            · obtain ⟨gn, rfl⟩ : ∃ gn, gk = gn + 1 := ⟨gk - 1, by have := HK.out; omega⟩
              have k1 : (k : Int) < (n : Int) := by omega
              have hwk : IntKind.i64.wrap ((k : Int) + 1) = (k : Int) + 1 := IntWalk.i64_in _ (by omega)
              have hrs : List.replicate k c ++ [c] = List.replicate (k + 1) c := by rw [List.replicate_succ']
              have HRS := Aside0.mk hrs
              clear hrs
              go_wp2_with (at_builtin; refine Kd.R_append kB (w0 := wr) 0 rfl (.tmp 48) (.tmp 50) 44 5 (.int .u8 0) 1 rfl Try.underlying44 info5 rfl (by decide) (by decide) (.slice A k c3) (List.replicate k c) c [.int .u8 c] (fun j => w.heap.size ≤ j) (fun _ => False) rfl rfl rfl (fun _ h => h.elim) (fun j hj => Nat.le_trans HB.out.size hj) HR.out (Below.refl _ _) (Nat.zero_le _) (by rw [List.length_replicate]; omega) ?_; intro v3 w3 hR3 _ hg3 hat3; obtain ⟨A8, c8, hv3, hc3, _⟩ := Kd.R_reads hR3; rw [HRS.out] at hR3 hv3; rw [List.length_replicate] at hv3; subst hv3; have HR3 := Aside0.mk hR3; have HB3 : Aside0 (Below w.heap.size w w3) := ⟨HB.out.grown hg3 HB.out.size (fun j e => HR.out.1 j e)⟩; clear hR3 hg3 hat3 hc3)
              go_roundg gn
              case measure => exact Nat.lt_succ_self _
              case rel => exact ⟨k + 1, A8, c8, by simp, rfl, ⟨by have := HK.out; omega⟩, HR3, HB3⟩
            · have hkk : ¬ ((k : Int) < (n : Int)) := by omega
              obtain rfl : k = n := by have := HK.out; omega
              go_wp2_with (fail)
              go_meet
              case rel => exact ⟨A, c3, rfl, HR, HB⟩
        case rest =>
          obtain ⟨A, c3, rfl, HR, HB⟩ := hcut
          obtain ⟨g, cap, hv, hcap⟩ := formB HR.out (by rw [List.length_replicate]; exact hn1)
          rw [List.length_replicate] at hv
          injection hv with hv1 hv2 hv3
          subst hv1
          clear hv2 hv3 hcap
          have hwn : IntKind.i64.wrap ((n : Int) + 2) = (n : Int) + 2 := IntWalk.i64_in _ (by omega)
          obtain ⟨u2, hu2⟩ : ∃ q, wc.alloc (.cells #[.int .u8 x] 5) = q := ⟨_, rfl⟩
          obtain ⟨u3, hu3⟩ : ∃ q, u2.alloc (.cells #[.int .u8 y] 5) = q := ⟨_, rfl⟩
          obtain ⟨ub, hub⟩ : ∃ q, wc.heap.size = q := ⟨_, rfl⟩
          have us2 : u2.heap.size = ub + 1 := by rw [← hu2]; simp [hub]
          have uc2 : u2.heap[ub]? = some (.cells #[.int .u8 x] 5 (0, 0)) := by rw [← hu2, ← hub]; exact heap_alloc_new _ _
          have uc3 : u3.heap[ub + 1]? = some (.cells #[.int .u8 y] 5 (0, 0)) := by rw [← hu3, ← us2]; exact heap_alloc_new _ _
          have ul2 : Below wc.heap.size wc u2 := by rw [← hu2]; exact below_alloc (Below.refl _ wc) _
          have ul3 : Below u2.heap.size u2 u3 := by rw [← hu3]; exact below_alloc (Below.refl _ u2) _
          have uk1 := run_convert_bytes_arg (P := Try.prog) u2 44 5 Try.underlying44 Try.underlying5 ub 0 1 1 [x] rfl (one_at uc2) 9 Try.underlying9
          have uk2 := run_convert_bytes_arg (P := Try.prog) u2 44 5 Try.underlying44 Try.underlying5 g 0 n c3 (List.replicate n c) (List.length_replicate ..) (fun i hi => atB (Kd.R_below HR.out ul2) (by rw [List.length_replicate]; exact hi)) 9 Try.underlying9
          have uk3 := run_convert_bytes_arg (P := Try.prog) u3 44 5 Try.underlying44 Try.underlying5 (ub + 1) 0 1 1 [y] rfl (one_at uc3) 9 Try.underlying9
          obtain ⟨uP1, uh1⟩ : ∃ q, strOfNums [x] = q := ⟨_, rfl⟩
          obtain ⟨uP2, uh2⟩ : ∃ q, strOfNums (List.replicate n c) = q := ⟨_, rfl⟩
          obtain ⟨uP3, uh3⟩ : ∃ q, strOfNums [y] = q := ⟨_, rfl⟩
          obtain ⟨uL1, uh4⟩ : ∃ q, uP1 ++ uP2 = q := ⟨_, rfl⟩
          obtain ⟨uL2, uh5⟩ : ∃ q, uL1 ++ uP3 = q := ⟨_, rfl⟩
          obtain ⟨uL3, uh6⟩ : ∃ q, uL2 ++ ⟨#[120]⟩ = q := ⟨_, rfl⟩
          have uh7 : uL3 = strOfNums (sideL x c y n) := by rw [← uh6, ← uh5, ← uh4, ← uh1, ← uh2, ← uh3]; exact side_str x c y n
          have uz1 : uP1.size = 1 := by rw [← uh1]; exact nums_size _
          have uz2 : uP2.size = n := by rw [← uh2, nums_size, List.length_replicate]
          have uz3 : uP3.size = 1 := by rw [← uh3]; exact nums_size _
          have uz4 : uL1.size = n + 1 := by rw [← uh4, ByteArray.size_append]; omega
          have uz5 : uL2.size = n + 2 := by rw [← uh5, ByteArray.size_append]; omega
          have uz6 : uL3.size = n + 3 := by rw [uh7, nums_size]; simp
          have um1 : uP1.size + uP2.size ≤ 9223372036854775807 := by omega
          have um2 : uL1.size + uP3.size ≤ 9223372036854775807 := by omega
          have um3 : uL2.size + 1 ≤ 9223372036854775807 := by omega
          rw [uh1] at uk1
          rw [uh2] at uk2
          rw [uh3] at uk3
          have uH7 := Aside0.mk uh7
          have uBL : Aside0 (Below wc.heap.size wc u3) := ⟨ul2.trans (ul3.mono ul2.size)⟩
          have uS6 := Aside0.mk uz6
          clear uh1 uh2 uh3 uh7 uz1 uz2 uz3 uz4 uz5 uz6 uc2 uc3 ul2 ul3
          go_upto_region 13 with (fail)
          refine (lookq_c uL3 0 1 ((n : Int) + 2) u3 (by rw [uS6.out]; omega)).mono ?_
          rintro _ w4 ⟨r, is, ⟨rfl, hb4⟩, hr⟩
          rw [uH7.out] at hr
          obtain ⟨rfl, rfl⟩ := hr.uniq (side_look hn1 HXX.out HYY.out HCC.out G1.out G2.out G3.out G4.out)
          have HB4 : Aside0 (Below w.heap.size w w4) := ⟨HB.out.trans ((uBL.out.trans (hb4.mono uBL.out.size)).mono HB.out.size)⟩
          have HC4 : Aside0 (Below wc.heap.size wc w4) := ⟨uBL.out.trans (hb4.mono uBL.out.size)⟩
          clear hb4 hr
          clear hu2 hu3 hub us2 uk1 uk2 uk3 uh4 uh5 uh6 um1 um2 um3
          obtain ⟨ro, hro⟩ : ∃ q, opensB c y x = q := ⟨_, rfl⟩
          obtain ⟨rc, hrc⟩ : ∃ q, closesB c y x = q := ⟨_, rfl⟩
          rw [hro, hrc]
          have HRO := Aside0.mk hro
          have HRC := Aside0.mk hrc
          clear hro hrc
          obtain ⟨b, hb⟩ : ∃ q, w4.heap.size = q := ⟨_, rfl⟩
          obtain ⟨w5, hw5⟩ : ∃ q, w4.alloc (.cells zrun 23) = q := ⟨_, rfl⟩
          have hsw5 : w5.heap.size = b + 1 := by rw [← hw5]; simp [hb]
          have hzb : w5.heap[b]? = some (.cells zrun 23 (0, 0)) := by rw [← hw5, ← hb]; exact heap_alloc_new _ _
          have hbb : Below w4.heap.size w4 w5 := by rw [← hw5]; exact below_alloc (Below.refl _ w4) _
          have fzb := fun j => blk_frozen hzb j
          have z0b : w5.cell? ⟨b, 0, none⟩ = some (.int .i64 0) := cell_of_row _ _ _ _ _ _ hzb
          have z1b : w5.cell? ⟨b, 1, none⟩ = some (.int .i64 0) := cell_of_row _ _ _ _ _ _ hzb
          have z2b : w5.cell? ⟨b, 2, none⟩ = some (.int .u8 0) := cell_of_row _ _ _ _ _ _ hzb
          have z3b : w5.cell? ⟨b, 3, none⟩ = some (.bool false) := cell_of_row _ _ _ _ _ _ hzb
          have z4b : w5.cell? ⟨b, 4, none⟩ = some (.bool false) := cell_of_row _ _ _ _ _ _ hzb
          have HZb := Aside0.mk hzb
          have HBb := Aside0.mk hbb
          clear hzb hbb
          go_upto_region 13 with (fail)
          obtain ⟨V, hV⟩ : ∃ q, ((((w5.setCell ⟨b, 0, none⟩ (.int .i64 1)).setCell ⟨b, 1, none⟩ (.int .i64 (n : Int))).setCell ⟨b, 2, none⟩ (.int .u8 c)).setCell ⟨b, 3, none⟩ (.bool ro)).setCell ⟨b, 4, none⟩ (.bool rc) = q := ⟨_, rfl⟩
          rw [hV]
          have HV : Aside0 (V.heap[b]? = some (.cells (rnc ⟨1, (n : Int), c, ro, rc⟩) 23 (0, 0))) := ⟨by rw [← hV]; exact five_row HZb.out _ _ _ _ _⟩
          have HBV : Aside0 (Below w4.heap.size w4 V) := ⟨by rw [← hV]; exact five_below HBb.out (by omega) _ _ _ _ _⟩
          clear hV hw5 fzb z0b z1b z2b z3b z4b hsw5
          have a0 : V.cell? ⟨b, 0, none⟩ = some (.int .i64 1) := cell_of_row _ _ _ _ _ _ HV.out
          have a1 : V.cell? ⟨b, 1, none⟩ = some (.int .i64 (n : Int)) := cell_of_row _ _ _ _ _ _ HV.out
          have a2 : V.cell? ⟨b, 2, none⟩ = some (.int .u8 c) := cell_of_row _ _ _ _ _ _ HV.out
          have a3 : V.cell? ⟨b, 3, none⟩ = some (.bool ro) := cell_of_row _ _ _ _ _ _ HV.out
          have a4 : V.cell? ⟨b, 4, none⟩ = some (.bool rc) := cell_of_row _ _ _ _ _ _ HV.out
          have HBW : Aside0 (Below w.heap.size w V) := ⟨HB4.out.trans (HBV.out.mono HB4.out.size)⟩
          have HCW : Aside0 (Below wc.heap.size wc V) := ⟨HC4.out.trans (HBV.out.mono HC4.out.size)⟩
          have h1 : ((n : Int) != (n : Int)) = false := by simp
          have h2 : (c != c) = false := by simp
          by_cases h13 : x = 13
          case pos =>
            have q13 : (x == 13) = true := by simpa using h13
            clear h13
            go_wp2_with (go_at_call 11; refine (reads_c V).mono ?_; rintro _ w9 ⟨rfl, h9⟩; have HB9 := Aside0.mk h9; clear h9)
            go_ret
            exact ⟨rfl, HBW.out.trans (HB9.out.mono HBW.out.size)⟩
          case neg =>
            have q13 : (x == 13) = false := by simpa using h13
            clear h13
            have HRV := Aside0.mk (Kd.R_below HR.out HCW.out)
            go_upto_region 17 with (fail)
            obtain ⟨t2, ht2⟩ : ∃ q, V.alloc (.cells #[.int .u8 y] 5) = q := ⟨_, rfl⟩
            obtain ⟨t3, ht3⟩ : ∃ q, t2.alloc (.cells #[.int .u8 x] 5) = q := ⟨_, rfl⟩
            obtain ⟨tb, htb⟩ : ∃ q, V.heap.size = q := ⟨_, rfl⟩
            have ts2 : t2.heap.size = tb + 1 := by rw [← ht2]; simp [htb]
            have tc2 : t2.heap[tb]? = some (.cells #[.int .u8 y] 5 (0, 0)) := by rw [← ht2, ← htb]; exact heap_alloc_new _ _
            have tc3 : t3.heap[tb + 1]? = some (.cells #[.int .u8 x] 5 (0, 0)) := by rw [← ht3, ← ts2]; exact heap_alloc_new _ _
            have tl2 : Below V.heap.size V t2 := by rw [← ht2]; exact below_alloc (Below.refl _ V) _
            have tl3 : Below t2.heap.size t2 t3 := by rw [← ht3]; exact below_alloc (Below.refl _ t2) _
            have tk1 := run_convert_bytes_arg (P := Try.prog) t2 44 5 Try.underlying44 Try.underlying5 tb 0 1 1 [y] rfl (one_at tc2) 9 Try.underlying9
            have tk2 := run_convert_bytes_arg (P := Try.prog) t2 44 5 Try.underlying44 Try.underlying5 g 0 n c3 (List.replicate n c) (List.length_replicate ..) (fun i hi => atB (Kd.R_below HRV.out tl2) (by rw [List.length_replicate]; exact hi)) 9 Try.underlying9
            have tk3 := run_convert_bytes_arg (P := Try.prog) t3 44 5 Try.underlying44 Try.underlying5 (tb + 1) 0 1 1 [x] rfl (one_at tc3) 9 Try.underlying9
            obtain ⟨tP1, th1⟩ : ∃ q, strOfNums [y] = q := ⟨_, rfl⟩
            obtain ⟨tP2, th2⟩ : ∃ q, strOfNums (List.replicate n c) = q := ⟨_, rfl⟩
            obtain ⟨tP3, th3⟩ : ∃ q, strOfNums [x] = q := ⟨_, rfl⟩
            obtain ⟨tL1, th4⟩ : ∃ q, tP1 ++ tP2 = q := ⟨_, rfl⟩
            obtain ⟨tL2, th5⟩ : ∃ q, tL1 ++ tP3 = q := ⟨_, rfl⟩
            obtain ⟨tL3, th6⟩ : ∃ q, tL2 ++ ⟨#[120]⟩ = q := ⟨_, rfl⟩
            have th7 : tL3 = strOfNums (sideL y c x n) := by rw [← th6, ← th5, ← th4, ← th1, ← th2, ← th3]; exact side_str y c x n
            have tz1 : tP1.size = 1 := by rw [← th1]; exact nums_size _
            have tz2 : tP2.size = n := by rw [← th2, nums_size, List.length_replicate]
            have tz3 : tP3.size = 1 := by rw [← th3]; exact nums_size _
            have tz4 : tL1.size = n + 1 := by rw [← th4, ByteArray.size_append]; omega
            have tz5 : tL2.size = n + 2 := by rw [← th5, ByteArray.size_append]; omega
            have tz6 : tL3.size = n + 3 := by rw [th7, nums_size]; simp
            have tm1 : tP1.size + tP2.size ≤ 9223372036854775807 := by omega
            have tm2 : tL1.size + tP3.size ≤ 9223372036854775807 := by omega
            have tm3 : tL2.size + 1 ≤ 9223372036854775807 := by omega
            rw [th1] at tk1
            rw [th2] at tk2
            rw [th3] at tk3
            have tH7 := Aside0.mk th7
            have tBL : Aside0 (Below V.heap.size V t3) := ⟨tl2.trans (tl3.mono tl2.size)⟩
            have tS6 := Aside0.mk tz6
            clear th1 th2 th3 th7 tz1 tz2 tz3 tz4 tz5 tz6 tc2 tc3 tl2 tl3
            go_upto_region 18 with (fail)
            refine (lookq_c tL3 0 1 ((n : Int) + 2) t3 (by rw [tS6.out]; omega)).mono ?_
            rintro _ w6 ⟨r, is, ⟨rfl, hb6⟩, hr⟩
            rw [tH7.out] at hr
            obtain ⟨rfl, rfl⟩ := hr.uniq (side_look hn1 HYY.out HXX.out HCC.out G2.out G1.out G4.out G3.out)
            have HV6 : Aside0 (Below V.heap.size V w6) := ⟨tBL.out.trans (hb6.mono tBL.out.size)⟩
            clear hb6 hr
            clear ht2 ht3 htb ts2 tk1 tk2 tk3 th4 th5 th6 tm1 tm2 tm3
            have hro2 : closesB c x y = ro := HRO.out
            have hrc2 : opensB c x y = rc := HRC.out
            rw [hro2, hrc2]
            clear hro2 hrc2
            obtain ⟨d, hd⟩ : ∃ q, w6.heap.size = q := ⟨_, rfl⟩
            obtain ⟨w7, hw7⟩ : ∃ q, w6.alloc (.cells zrun 23) = q := ⟨_, rfl⟩
            have hsw7 : w7.heap.size = d + 1 := by rw [← hw7]; simp [hd]
            have hzd : w7.heap[d]? = some (.cells zrun 23 (0, 0)) := by rw [← hw7, ← hd]; exact heap_alloc_new _ _
            have hbd : Below w6.heap.size w6 w7 := by rw [← hw7]; exact below_alloc (Below.refl _ w6) _
            have fzd := fun j => blk_frozen hzd j
            have z0d : w7.cell? ⟨d, 0, none⟩ = some (.int .i64 0) := cell_of_row _ _ _ _ _ _ hzd
            have z1d : w7.cell? ⟨d, 1, none⟩ = some (.int .i64 0) := cell_of_row _ _ _ _ _ _ hzd
            have z2d : w7.cell? ⟨d, 2, none⟩ = some (.int .u8 0) := cell_of_row _ _ _ _ _ _ hzd
            have z3d : w7.cell? ⟨d, 3, none⟩ = some (.bool false) := cell_of_row _ _ _ _ _ _ hzd
            have z4d : w7.cell? ⟨d, 4, none⟩ = some (.bool false) := cell_of_row _ _ _ _ _ _ hzd
            have HZd := Aside0.mk hzd
            have HBd := Aside0.mk hbd
            clear hzd hbd
            go_upto_region 18 with (fail)
            obtain ⟨X, hX⟩ : ∃ q, ((((w7.setCell ⟨d, 0, none⟩ (.int .i64 1)).setCell ⟨d, 1, none⟩ (.int .i64 (n : Int))).setCell ⟨d, 2, none⟩ (.int .u8 c)).setCell ⟨d, 3, none⟩ (.bool rc)).setCell ⟨d, 4, none⟩ (.bool ro) = q := ⟨_, rfl⟩
            rw [hX]
            have HX : Aside0 (X.heap[d]? = some (.cells (rnc ⟨1, (n : Int), c, rc, ro⟩) 23 (0, 0))) := ⟨by rw [← hX]; exact five_row HZd.out _ _ _ _ _⟩
            have HBX : Aside0 (Below w6.heap.size w6 X) := ⟨by rw [← hX]; exact five_below HBd.out (by omega) _ _ _ _ _⟩
            clear hX hw7 fzd z0d z1d z2d z3d z4d hsw7
            have hV : X.heap[b]? = some (.cells (rnc ⟨1, (n : Int), c, ro, rc⟩) 23 (0, 0)) := (HBX.out.block b (Nat.lt_of_lt_of_le (blk_lt HV.out) HV6.out.size)).trans ((HV6.out.block b (blk_lt HV.out)).trans HV.out)
            clear a0 a1 a2 a3 a4
            have a3 : X.cell? ⟨b, 3, none⟩ = some (.bool ro) := cell_of_row _ _ _ _ _ _ hV
            have a4 : X.cell? ⟨b, 4, none⟩ = some (.bool rc) := cell_of_row _ _ _ _ _ _ hV
            have c3x : X.cell? ⟨d, 3, none⟩ = some (.bool rc) := cell_of_row _ _ _ _ _ _ HX.out
            have c4x : X.cell? ⟨d, 4, none⟩ = some (.bool ro) := cell_of_row _ _ _ _ _ _ HX.out
            have HBF : Aside0 (Below w.heap.size w X) := ⟨HBW.out.trans ((HV6.out.trans (HBX.out.mono HV6.out.size)).mono HBW.out.size)⟩
            clear hV h1 h2
            go_wp2_with (go_at_call 11; refine (reads_c X).mono ?_; rintro _ w9 ⟨rfl, h9⟩; have HB9 := Aside0.mk h9; clear h9)
            go_ret
            exact ⟨rfl, HBF.out.trans (HB9.out.mono HBF.out.size)⟩
end Go.Proofs.Ytjfpkldknchnkaa.Me
