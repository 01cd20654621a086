/- MdemphLaid walked. -/
import Derived.Test.YtjfpkldknchnkaaLa
import Derived.Test.YtjfpkldknchnkaaPl
import Derived.Test.YtjfpkldknchnkaaPz
import Derived.Test.YtjfpkldknchnkaaAr
import Derived.Test.YtjfpkldknchnkaaNp
namespace Go.Proofs.Ytjfpkldknchnkaa.Me
open Go.RowKit Go.Proofs.YtjfpkldknchnkaaW.PrintWords Go.Proofs.YtjfpkldknchnkaaW.PrintLast Go.Proofs.YtjfpkldknchnkaaW.PrintMore
attribute [local go_sem] max2_int min2_int max_two min_two max_three min_three max_four min_four
set_option linter.unusedVariables false
set_option linter.unusedSimpArgs false
theorem ext_one (s : ByteArray) (k : Nat) (hk : k < s.size) : s.extract k (k + 1) = strOfNums [bt s (k : Int)] := by
  apply ByteArray.ext
  apply Array.ext'
  rw [strOfNums_data]
  have h1 : (s.extract k (k + 1)).data.toList = (s.data.toList.drop k).take 1 := by
    simp [ByteArray.data_extract, Array.toList_extract]
  rw [h1]
  have hk2 : k < s.data.toList.length := by rw [Array.length_toList]; exact hk
  rw [List.drop_eq_getElem_cons hk2]
  simp only [List.take_succ_cons, List.take_zero, List.map_cons, List.map_nil]
  congr 1
  have hb := bt_nat s k hk
  have : s.data.toList[k] = s[k]'hk := by rw [Array.getElem_toList]; rfl
  rw [this, ← hb, Int.toNat_natCast]
  simp
def chs : Nat → ByteArray
  | 0 => ⟨#[42]⟩
  | 1 => ⟨#[95]⟩
  | 2 => ⟨#[42, 42]⟩
  | _ => ⟨#[95, 95]⟩
theorem chs_is (m : Int) (h0 : 0 ≤ m) (q : Nat) (hq : m % 4 = (q : Int)) : chs q = strOfNums (sg m) ∧ ((chs q).size : Int) = nS m := by
  have h4 : q = 0 ∨ q = 1 ∨ q = 2 ∨ q = 3 := by omega
  unfold sg nS cS
  rcases h4 with rfl | rfl | rfl | rfl
  · rw [if_pos (by omega), if_pos (by omega), if_pos (by omega)]
    exact ⟨rfl, rfl⟩
  · rw [if_pos (by omega), if_neg (by omega), if_pos (by omega)]
    exact ⟨rfl, rfl⟩
  · rw [if_neg (by omega), if_pos (by omega), if_neg (by omega)]
    exact ⟨rfl, rfl⟩
  · rw [if_neg (by omega), if_neg (by omega), if_neg (by omega)]
    exact ⟨rfl, rfl⟩
theorem opB_snoc {ms : List Int} {i : Nat} {m : Int} (h : ms[i]? = some m) : opB (ms.take (i + 1)) = opB (ms.take i) ++ ([32] ++ sg m ++ [119]) := by
  unfold opB
  rw [take_snoc h, List.flatMap_append, List.flatMap_cons, List.flatMap_nil, List.append_nil]
theorem drop_rev {ms : List Int} {i : Nat} {m : Int} (h : ms[i]? = some m) : (ms.drop i).reverse = (ms.drop (i + 1)).reverse ++ [m] := by
  obtain ⟨h1, h2⟩ := List.getElem?_eq_some_iff.1 h
  rw [List.drop_eq_getElem_cons h1, h2, List.reverse_cons]
theorem clB_snoc {ms : List Int} {i : Nat} {m : Int} (h : ms[i]? = some m) : clB (ms.drop i).reverse = clB (ms.drop (i + 1)).reverse ++ ([119] ++ sg m ++ [32]) := by
  rw [drop_rev h]
  unfold clB
  rw [List.flatMap_append, List.flatMap_cons, List.flatMap_nil, List.append_nil]
/-- The wanted row, as far as it is laid: the ends of signs from g on are known. -/
def wantAt (p : Int) (ms : List Int) (g j : Nat) (m : Int) : Pr := if g ≤ j then wantP p ms j m else ⟨p + lenS (ms.take j) + 1, 0, decide (nS m = 2)⟩
/-- What the walk keeps. -/
structure LS (w W : World) (p : Int) (ms : List Int) (g n : Nat) (v : Value) (T : List Pr) : Prop where
  row : kV.R 39 W 0 (fun j => w.heap.size ≤ j) v T
  ln : T.length = n
  at_ : ∀ (j : Nat) (m : Int), j < n → ms[j]? = some m → T[j]? = some (wantAt p ms g j m)
  bel : Below w.heap.size w W
theorem LS.below {w W W' : World} {p : Int} {ms : List Int} {g n : Nat} {v : Value} {T : List Pr} (h : LS w W p ms g n v T) (hb : Below W.heap.size W W') : LS w W' p ms g n v T :=
  ⟨Kd.R_below h.row hb, h.ln, h.at_, h.bel.trans (hb.mono h.bel.size)⟩
theorem LS.set {w W : World} {p : Int} {ms : List Int} {g0 n c i : Nat} {T : List Pr} {m : Int} (h : LS w W p ms (i + 1) n (.slice (some ⟨g0, 0, none⟩) n c) T) (hi : i < n) (hm : ms[i]? = some m) (x : Int) (hx : x = p + lenS ms + 3 + lenS (ms.drop (i + 1)).reverse + 1 + nS m) :
    LS w (W.setCell ⟨g0, i * 3 + 1, none⟩ (.int .i64 x)) p ms i n (.slice (some ⟨g0, 0, none⟩) n c) (T.set i (wantP p ms i m)) := by
  have hT := h.at_ i m hi hm
  unfold wantAt at hT
  rw [if_neg (by omega)] at hT
  have hs := (Kd.R_seg (okp := fun _ => False) h.row (i : Int) (by omega) (by omega) (c := enc3 ⟨p + lenS (ms.take i) + 1, 0, decide (nS m = 2)⟩) (seg := [.int .i64 x]) (j := 1) rfl (fun j u hu => by
    have := atV h.row hT j u hu
    simpa [kV, flat] using this) (by simp [kV, flat]) (x' := wantP p ms i m) (by show _ = enc3 _; rw [hx]; rfl) (fun _ h => h.elim)).1
  rw [Int.toNat_natCast, show i * kV.sz + 1 = i * 3 + 1 from rfl] at hs
  refine ⟨hs, by rw [List.length_set]; exact h.ln, fun j m' hj hm' => ?_, h.bel.setCell (p := ⟨g0, i * 3 + 1, none⟩) (h.row.1 g0 rfl) _⟩
  unfold wantAt
  by_cases e : j = i
  · subst e
    rw [hm] at hm'
    injection hm' with hm'
    subst hm'
    rw [List.getElem?_set_self (by rw [h.ln]; exact hj), if_pos (Nat.le_refl _)]
  · rw [List.getElem?_set_ne (fun h => e h.symm), h.at_ j m' hj hm']
    unfold wantAt
    by_cases e2 : i + 1 ≤ j
    · rw [if_pos e2, if_pos (by omega)]
    · rw [if_neg e2, if_neg (by omega)]
theorem LS.blk {w W : World} {p : Int} {ms : List Int} {g n g0 c : Nat} {T : List Pr} (h : LS w W p ms g n (.slice (some ⟨g0, 0, none⟩) n c) T) : ∃ cs, W.heap[g0]? = some (.cells cs 39 (0, 0)) := by
  obtain ⟨_, _, _, q, hq, cs, hcs⟩ := (Kd.R_bound h.row).1 g0 rfl
  rcases List.mem_cons.1 hq with e1 | e1
  · exact ⟨cs, by rw [← e1]; exact hcs⟩
  · cases e1
theorem BytesA.below {w w' : World} {A : Option Addr} {n : Nat} {l : List Int} (h : BytesA w A n l) (hb : Below w.heap.size w w') : BytesA w' A n l :=
  ⟨h.1, h.2.1, h.2.2.1, fun hp => by obtain ⟨ad, h1, h2⟩ := h.2.2.2 hp; exact ⟨ad, h1, fun i x hx => pw_cell_below hb (h2 i x hx)⟩⟩
theorem lit32 : (⟨#[32]⟩ : ByteArray) = strOfNums [32] := rfl
theorem lit119 : (⟨#[119]⟩ : ByteArray) = strOfNums [119] := rfl
theorem litv : (⟨#[32, 118, 32]⟩ : ByteArray) = strOfNums [32, 118, 32] := rfl
theorem litx : (⟨#[120, 10]⟩ : ByteArray) = strOfNums [120, 10] := rfl
set_option maxRecDepth 100000 in
set_option maxHeartbeats 16000000 in
theorem laid_c (A : Option Addr) (n c : Nat) (ms : List Int) (AH : ByteArray) (w : World) (hms : BytesA w A n ms) : Calls Try.prog 6 #[.slice A n c, .string AH] w fun e w' => BoolP w true e w' := by
  by_cases hn : (30 : Int) < (n : Int)
  · go_enter Try.func6, Try.ntmps6
    go_wp2_with (fail)
    go_ret
    exact ⟨rfl, Below.refl _ w⟩
  by_cases ha : (60 : Int) < (AH.size : Int)
  · go_enter Try.func6, Try.ntmps6
    go_wp2_with (fail)
    go_ret
    exact ⟨rfl, Below.refl _ w⟩
  have HMS := Aside0.mk hms
  have HN : Aside0 (n ≤ 30 ∧ AH.size ≤ 60) := ⟨by omega⟩
  clear hms
  go_enter Try.func6, Try.ntmps6
  go_upto_block 0 with (fail)
  clear hn ha
  go_cut [5] from 21 to 49 (fun v5 wc => ∃ L0 : List Int, v5 = .string (strOfNums L0) ∧ Aside0 ((∀ x, x ∈ L0 → (97 ≤ x ∧ x ≤ 122) ∨ x = 32) ∧ L0.length ≤ 60) ∧ Aside0 (w = wc))
  case first =>
    as_aux_lemma =>
      obtain ⟨e0, he0⟩ : ∃ q, (ByteArray.empty) = q := ⟨_, rfl⟩
      have he1 : e0 = strOfNums [] := by rw [← he0]; rfl
      go_wp2_with (fail)
      go_loopg [5, 6] AH.size (fun gk v5 v6 wr => ∃ (k : Nat) (L0 : List Int), v6 = .int .i64 (k : Int) ∧ v5 = .string (strOfNums L0) ∧ Aside0 (k + gk = AH.size) ∧ Aside0 ((∀ x, x ∈ L0 → (97 ≤ x ∧ x ≤ 122) ∨ x = 32) ∧ L0.length ≤ k) ∧ Aside0 (w = wr))
      case atStart => exact ⟨0, [], rfl, rfl, ⟨by omega⟩, ⟨⟨fun x hx => (by cases hx), Nat.le_refl _⟩⟩, ⟨rfl⟩⟩
      case round =>
        as_aux_lemma =>
          obtain ⟨k, L0, rfl, rfl, HK, HL, HW⟩ := hrel
          obtain rfl := HW.out
          by_cases hk : k < AH.size
          case neg =>
            have hkk : ¬ ((k : Int) < (AH.size : Int)) := by omega
            have HKE : Aside0 (L0.length ≤ 60) := ⟨by have := HL.out.2; have := HK.out; have := HN.out; omega⟩
            go_wp2_with (fail)
            go_meet
            case rel => exact ⟨L0, rfl, ⟨⟨HL.out.1, HKE.out⟩⟩, ⟨rfl⟩⟩
          case pos =>
            obtain ⟨gn, rfl⟩ : ∃ gn, gk = gn + 1 := ⟨gk - 1, by have := HK.out; omega⟩
            have HEX := Aside0.mk (ext_one AH k hk)
            obtain ⟨X, hX⟩ : ∃ X, AH.extract k (k + 1) = X := ⟨_, rfl⟩
            obtain ⟨x, hx⟩ : ∃ x, bt AH (k : Int) = x := ⟨_, rfl⟩
            rw [hx, hX] at HEX
            have z0 : (((AH[k]'hk).toNat : Nat) : Int) = x := by rw [bt_nat AH k hk]; exact hx
            have k0 : (0 : Int) ≤ (k : Int) := by omega
            have k1 : (k : Int) < (AH.size : Int) := by omega
            have k2 : (k : Int) ≤ (k : Int) + 1 := by omega
            have k3 : (k : Int) + 1 ≤ (AH.size : Int) := by omega
            have hwk : IntKind.i64.wrap ((k : Int) + 1) = (k : Int) + 1 := IntWalk.i64_in _ (by have := HN.out; omega)
            have hxs : X.size = 1 := by rw [HEX.out]; rfl
            have hsz : (strOfNums L0).size + X.size ≤ 9223372036854775807 := by
              rw [hxs, strOfNums_size]
              exact Nat.le_trans (show L0.length + 1 ≤ 100 by have := HL.out.2; have := HN.out; omega) (by decide)
            have hsz1 : (strOfNums L0).size + 1 ≤ 9223372036854775807 := by rw [hxs] at hsz; exact hsz
            have HADD : Aside0 (strOfNums L0 ++ X = strOfNums (L0 ++ [x])) := ⟨by rw [HEX.out, nums_app]⟩
            clear hx
            by_cases c1 : 97 ≤ x
            · by_cases c2 : x ≤ 122
              · have HOK : Aside0 ((97 ≤ x ∧ x ≤ 122) ∨ x = 32) := ⟨.inl ⟨c1, c2⟩⟩
                go_wp2_with (fail)
                go_roundg gn
                case measure => exact Nat.lt_succ_self _
                case rel => exact ⟨k + 1, L0 ++ [x], by simp, by first | rw [HADD.out] | rw [← HADD.out], ⟨by have := HK.out; omega⟩, ⟨⟨fun y hy => by
                  rcases List.mem_append.1 hy with h | h
                  · exact HL.out.1 y h
                  · rw [List.mem_singleton.1 h]; exact HOK.out, by have := HL.out.2; rw [List.length_append, List.length_singleton]; omega⟩⟩, ⟨rfl⟩⟩

              · have c3 : (x == 32) = false := by simp; omega
                go_wp2_with (fail)
                go_roundg gn
                case measure => exact Nat.lt_succ_self _
                case rel => exact ⟨k + 1, L0, by simp, rfl, ⟨by have := HK.out; omega⟩, ⟨⟨HL.out.1, by have := HL.out.2; omega⟩⟩, ⟨rfl⟩⟩

            · by_cases c3 : x = 32
              · have HOK : Aside0 ((97 ≤ x ∧ x ≤ 122) ∨ x = 32) := ⟨.inr c3⟩
                have c4 : (x == 32) = true := by simpa using c3
                clear c3
                go_wp2_with (fail)
                go_roundg gn
                case measure => exact Nat.lt_succ_self _
                case rel => exact ⟨k + 1, L0 ++ [x], by simp, by first | rw [HADD.out] | rw [← HADD.out], ⟨by have := HK.out; omega⟩, ⟨⟨fun y hy => by
                  rcases List.mem_append.1 hy with h | h
                  · exact HL.out.1 y h
                  · rw [List.mem_singleton.1 h]; exact HOK.out, by have := HL.out.2; rw [List.length_append, List.length_singleton]; omega⟩⟩, ⟨rfl⟩⟩

              · have c4 : (x == 32) = false := by simpa using c3
                go_wp2_with (fail)
                go_roundg gn
                case measure => exact Nat.lt_succ_self _
                case rel => exact ⟨k + 1, L0, by simp, rfl, ⟨by have := HK.out; omega⟩, ⟨⟨HL.out.1, by have := HL.out.2; omega⟩⟩, ⟨rfl⟩⟩

  case rest =>
    as_aux_lemma =>
      obtain ⟨L0, rfl, HL0, HW⟩ := hcut
      obtain rfl := HW.out
      obtain ⟨p, hp⟩ : ∃ p : Int, (L0.length : Int) = p := ⟨_, rfl⟩
      have HP := Aside0.mk hp
      clear hp
      go_upto_block 2 with (fail)
      go_cut [5, 7] from 50 to 78 (fun v5 v7 wc => ∃ T, v5 = .string (strOfNums (L0 ++ opB ms)) ∧ Aside0 (LS w wc p ms n n v7 T))
      case first =>
        as_aux_lemma =>
          go_wp2_with (fail)
          go_loopg [5, 7, 8] n (fun gk v5 v7 v8 wr => ∃ (i : Nat) (A7 : Option Addr) (c7 : Nat) (T : List Pr), v8 = .int .i64 (i : Int) ∧ v5 = .string (strOfNums (L0 ++ opB (ms.take i))) ∧ v7 = .slice A7 i c7 ∧ Aside0 (i + gk = n) ∧ Aside0 (LS w wr p ms n i (.slice A7 i c7) T))
          case atStart => exact ⟨0, none, 0, [], rfl, by simp [opB], rfl, ⟨by omega⟩, ⟨⟨Kd.R_nil _ _ _ _ _, rfl, fun j m hj => by omega, Below.refl _ _⟩⟩⟩
          case round =>
            as_aux_lemma =>
              obtain ⟨i, A7, c7, T, rfl, rfl, rfl, HK, HLS⟩ := hrel
              by_cases hin : i < n
              case neg =>
                have hii : ¬ ((i : Int) < (n : Int)) := by omega
                obtain rfl : i = n := by have := HK.out; omega
                have HTA : Aside0 (ms.take i = ms) := ⟨List.take_of_length_le (by rw [HMS.out.1]; omega)⟩
                go_wp2_with (fail)
                go_meet
                case rel => exact ⟨T, by rw [HTA.out], HLS⟩
              case pos =>
                obtain ⟨gn, rfl⟩ : ∃ gn, gk = gn + 1 := ⟨gk - 1, by have := HK.out; omega⟩
                obtain ⟨m, hm⟩ : ∃ m, ms[i]? = some m := ⟨_, List.getElem?_eq_getElem (by rw [HMS.out.1]; omega)⟩
                have hmr := HMS.out.2.2.1 m (List.mem_of_getElem? hm)
                obtain ⟨q, hq⟩ : ∃ q : Nat, m % 4 = (q : Int) := ⟨(m % 4).toNat, by omega⟩
                obtain ⟨hx1, hx2⟩ := chs_is m hmr.1 q hq
                obtain ⟨X, hX⟩ : ∃ X, chs q = X := ⟨_, rfl⟩
                rw [hX] at hx1 hx2
                have hX2 : 1 ≤ X.size ∧ X.size ≤ 2 := by have := nS_pos m; omega
                have HM := Aside0.mk hm
                have HX1 := Aside0.mk hx1
                have HX2 := Aside0.mk hx2
                have HX3 := Aside0.mk hX2
                obtain ⟨ad, hA, hcell⟩ := HMS.out.2.2.2 (by omega)
                subst hA
                obtain ⟨gb, hgb⟩ : ∃ q, wr.heap.size = q := ⟨_, rfl⟩
                obtain ⟨wa, hwa⟩ : ∃ q, wr.alloc (.cells #[.string ⟨#[42]⟩, .string ⟨#[95]⟩, .string ⟨#[42, 42]⟩, .string ⟨#[95, 95]⟩] 9) = q := ⟨_, rfl⟩
                have na : wa.heap[gb]? = some (.cells #[.string ⟨#[42]⟩, .string ⟨#[95]⟩, .string ⟨#[42, 42]⟩, .string ⟨#[95, 95]⟩] 9 (0, 0)) := by rw [← hwa, ← hgb]; exact heap_alloc_new _ _
                have la : Below wr.heap.size wr wa := by rw [← hwa]; exact below_alloc (Below.refl _ wr) _
                have cq : wa.cell? ⟨gb, q, none⟩ = some (.string X) := by
                  rw [cell_of_row _ _ _ _ _ _ na, ← hX]
                  have h4 : q = 0 ∨ q = 1 ∨ q = 2 ∨ q = 3 := by omega
                  rcases h4 with rfl | rfl | rfl | rfl <;> rfl
                have cm : wa.cell? (ad.add i) = some (.int .u8 m) := pw_cell_below (HLS.out.bel.trans (la.mono HLS.out.bel.size)) (hcell i m hm)
                have q0 : (0 : Int) ≤ (q : Int) := by omega
                have q1 : (q : Int) < 4 := by omega
                have i0 : (0 : Int) ≤ (i : Int) := by omega
                have i1 : (i : Int) < (n : Int) := by omega
                have HLA : Aside0 (Below wr.heap.size wr wa) := ⟨la⟩
                clear na la hcell hX hx1 hx2 hX2
                obtain ⟨LN, hLN⟩ : ∃ q, strOfNums (L0 ++ opB (ms.take i)) = q := ⟨_, rfl⟩
                rw [hLN]
                have hlt := lenS_le (ms.take i)
                have hol := opB_len (ms.take i)
                have htl : (ms.take i).length ≤ 30 := by rw [List.length_take]; have := HN.out; omega
                have hlz : (LN.size : Int) = p + lenS (ms.take i) := by rw [← hLN, strOfNums_size, List.length_append, ← HP.out]; omega
                have hl300 : LN.size ≤ 300 := by have := HP.out; have := HL0.out.2; omega
                have s1 : LN.size + 1 ≤ 9223372036854775807 := Nat.le_trans (show LN.size + 1 ≤ 400 by omega) (by decide)
                have HLZ := Aside0.mk hlz
                have HL3 := Aside0.mk hl300
                have HLN := Aside0.mk hLN
                clear hlt hol htl hlz hl300 hLN hm
                have hwi : IntKind.i64.wrap ((i : Int) + 1) = (i : Int) + 1 := IntWalk.i64_in _ (by have := HN.out; omega)
                go_upto_region 15 with (fail)
                clear cq cm hwa q0 q1
                obtain ⟨L1, hL1⟩ : ∃ q, LN ++ (⟨#[32]⟩ : ByteArray) = q := ⟨_, rfl⟩
                rw [hL1]
                have hz1 : L1.size = LN.size + 1 := by rw [← hL1, ByteArray.size_append]; rfl
                have HZ1 := Aside0.mk hz1
                have HL1 := Aside0.mk hL1
                have HLSa : Aside0 (LS w wa p ms n i (.slice A7 i c7) T) := ⟨HLS.out.below HLA.out⟩
                obtain ⟨bm, hbm⟩ : ∃ q, decide (nS m = 2) = q := ⟨_, rfl⟩
                have hb1 : ((X.size : Int) == 2) = bm := by rw [← hbm, HX2.out]; rfl
                have hb2 : (X.size == 2) = bm := by
                  rw [← hb1]
                  by_cases h : X.size = 2
                  · rw [h]; rfl
                  · rw [show (X.size == 2) = false by simpa using h, show ((X.size : Int) == 2) = false by simp; omega]
                have HBM := Aside0.mk hbm
                have s2 : L1.size + X.size ≤ 9223372036854775807 := Nat.le_trans (show L1.size + X.size ≤ 400 by have := HL3.out; have := HX3.out; omega) (by decide)
                have s3 : L1.size + X.size + 1 ≤ 9223372036854775807 := Nat.le_trans (show L1.size + X.size + 1 ≤ 400 by have := HL3.out; have := HX3.out; omega) (by decide)
                have i30 : i ≤ 30 := by have := HN.out; omega
                clear hbm hz1 hL1 s1
                go_upto_region 16 with (at_builtin; refine Kd.R_append kV (w0 := wa) 0 rfl (.tmp 66) (.tmp 73) 34 39 (.agg #[.int .i64 0, .int .i64 0, .bool false]) 24 rfl Try.underlying34 info39 rfl (by decide) (by decide) (.slice A7 i c7) T ⟨(L1.size : Int), 0, bm⟩ [.int .i64 (L1.size : Int), .int .i64 0, .bool bm] (fun j => w.heap.size ≤ j) (fun _ => False) rfl rfl rfl (fun _ h => h.elim) (fun j hj => Nat.le_trans HLSa.out.bel.size hj) HLSa.out.row (Below.refl _ _) (Nat.zero_le _) (by rw [HLSa.out.ln]; omega) ?_; intro v3 w3 hR3 _ hg3 hat3; obtain ⟨A8, c8, hv3, hc3, _⟩ := Kd.R_reads hR3; rw [show (T ++ [(⟨(L1.size : Int), 0, bm⟩ : Pr)]).length = i + 1 from (by rw [List.length_append, HLSa.out.ln]; rfl)] at hv3; subst hv3; have HR3 := Aside0.mk hR3; have HB3 : Aside0 (Below w.heap.size w w3) := ⟨HLSa.out.bel.grown hg3 HLSa.out.bel.size (fun j e => HLSa.out.row.1 j e)⟩; clear hR3 hg3 hat3 hc3)
                have HLS3 : Aside0 (LS w w3 p ms n (i + 1) (.slice A8 (i + 1) c8) (T ++ [⟨(L1.size : Int), 0, bm⟩])) := ⟨⟨HR3.out, by rw [List.length_append, HLSa.out.ln]; rfl, fun j m' hj hm' => by
                  by_cases e : j < i
                  · rw [List.getElem?_append_left (by rw [HLSa.out.ln]; exact e)]
                    exact HLSa.out.at_ j m' e hm'
                  · obtain rfl : j = i := by omega
                    rw [HM.out] at hm'
                    injection hm' with hm'
                    subst hm'
                    rw [List.getElem?_append_right (by rw [HLSa.out.ln]; exact Nat.le_refl _), HLSa.out.ln, Nat.sub_self]
                    unfold wantAt
                    rw [if_neg (by have := HK.out; omega), HBM.out]
                    simp only [List.getElem?_cons_zero]
                    congr 2
                    rw [HZ1.out]
                    have := HLZ.out
                    omega, HB3.out⟩⟩
                have HV : Aside0 (L1 ++ X ++ (⟨#[119]⟩ : ByteArray) = strOfNums (L0 ++ opB (ms.take (i + 1)))) := ⟨by rw [opB_snoc HM.out, ← HL1.out, ← HLN.out, HX1.out, lit32, lit119, nums_app, nums_app, nums_app]; congr 1; simp⟩
                clear hb1 hb2
                go_wp2_with (fail)
                go_roundg gn
                case measure => exact Nat.lt_succ_self _
                case rel => exact ⟨i + 1, A8, c8, _, by simp, (show Value.string (L1 ++ X ++ (⟨#[119]⟩ : ByteArray)) = _ from by rw [HV.out]), rfl, ⟨by have := HK.out; omega⟩, HLS3⟩

      case rest =>
        as_aux_lemma =>
          obtain ⟨T0, rfl, HLS⟩ := hcut
          obtain ⟨wE, hwE⟩ : ∃ q, wc = q := ⟨_, rfl⟩
          rw [hwE] at HLS ⊢
          clear hwE
          obtain ⟨A7, c7, hv7⟩ := Kd.R_slice HLS.out.row
          rw [HLS.out.ln] at hv7
          rw [hv7] at HLS ⊢
          clear hv7
          have HLEN : Aside0 (0 ≤ lenS ms ∧ lenS ms ≤ 120 ∧ ((opB ms).length : Int) = lenS ms ∧ p ≤ 60 ∧ 0 ≤ p ∧ ms.length = n) := ⟨by
            have h1 := lenS_le ms
            have h2 := opB_len ms
            have h3 := HMS.out.1
            have h4 := HN.out
            have h5 := HP.out
            have h6 := HL0.out.2
            omega⟩
          obtain ⟨LN, hLN⟩ : ∃ q, strOfNums (L0 ++ opB ms) = q := ⟨_, rfl⟩
          rw [hLN]
          have HLN := Aside0.mk hLN
          have hlz : LN.size ≤ 200 := by rw [← hLN, strOfNums_size, List.length_append]; have := HLEN.out; have := HP.out; omega
          have s1 : LN.size + 3 ≤ 9223372036854775807 := Nat.le_trans (show LN.size + 3 ≤ 400 by omega) (by decide)
          have hwn : IntKind.i64.wrap ((n : Int) - 1) = (n : Int) - 1 := IntWalk.i64_in _ (by have := HN.out; omega)
          clear hlz hLN
          go_upto_block 4 with (fail)
          obtain ⟨BS, hBS⟩ : ∃ q, LN ++ (⟨#[32, 118, 32]⟩ : ByteArray) = q := ⟨_, rfl⟩
          rw [hBS]
          have HBS : Aside0 (BS = strOfNums (L0 ++ (opB ms ++ [32, 118, 32]))) := ⟨by rw [← hBS, ← HLN.out, litv, nums_app]; congr 1; simp⟩
          clear hBS s1 hwn
          go_cut [5] from 84 to 106 (fun v5 wc => ∃ T, v5 = .string (strOfNums (L0 ++ (opB ms ++ [32, 118, 32] ++ clB ms.reverse))) ∧ Aside0 (LS w wc p ms 0 n (.slice A7 n c7) T))
          case first =>
            as_aux_lemma =>
              go_wp2_with (fail)
              go_loopg [5, 10] n (fun gk v5 v10 wr => ∃ (z : Int) (T : List Pr), v10 = .int .i64 z ∧ v5 = .string (strOfNums (L0 ++ (opB ms ++ [32, 118, 32] ++ clB (ms.drop gk).reverse))) ∧ Aside0 (z = (gk : Int) - 1 ∧ gk ≤ n) ∧ Aside0 (LS w wr p ms gk n (.slice A7 n c7) T))
              case atStart => exact ⟨_, T0, rfl, (show Value.string BS = _ from by rw [HBS.out, List.drop_eq_nil_of_le (by rw [HLEN.out.2.2.2.2.2]; exact Nat.le_refl _)]; simp [clB]), ⟨⟨rfl, Nat.le_refl _⟩⟩, HLS⟩
              case round =>
                as_aux_lemma =>
                  clear HLS
                  obtain ⟨z, T, rfl, rfl, HZ, HLS⟩ := hrel
                  rcases Nat.eq_zero_or_pos gk with hz0 | hz0
                  case inl =>
                    subst hz0
                    have hz : ¬ (0 : Int) ≤ z := by have := HZ.out; omega
                    go_wp2_with (fail)
                    go_meet
                    case rel => exact ⟨T, by simp, HLS⟩
                  case inr =>
                    obtain ⟨i, rfl⟩ : ∃ i, gk = i + 1 := ⟨gk - 1, by omega⟩
                    clear hz0
                    obtain rfl : z = (i : Int) := by have := HZ.out; omega
                    have hin : i < n := by have := HZ.out; omega
                    obtain ⟨m, hm⟩ : ∃ m, ms[i]? = some m := ⟨_, List.getElem?_eq_getElem (by rw [HMS.out.1]; omega)⟩
                    have hmr := HMS.out.2.2.1 m (List.mem_of_getElem? hm)
                    obtain ⟨q, hq⟩ : ∃ q : Nat, m % 4 = (q : Int) := ⟨(m % 4).toNat, by omega⟩
                    obtain ⟨hx1, hx2⟩ := chs_is m hmr.1 q hq
                    obtain ⟨X, hX⟩ : ∃ X, chs q = X := ⟨_, rfl⟩
                    rw [hX] at hx1 hx2
                    have hX2 : 1 ≤ X.size ∧ X.size ≤ 2 := by have := nS_pos m; omega
                    have HM := Aside0.mk hm
                    have HX1 := Aside0.mk hx1
                    have HX2 := Aside0.mk hx2
                    have HX3 := Aside0.mk hX2
                    obtain ⟨ad, hA, hcell⟩ := HMS.out.2.2.2 (by omega)
                    subst hA
                    obtain ⟨gb, hgb⟩ : ∃ q, wr.heap.size = q := ⟨_, rfl⟩
                    obtain ⟨wa, hwa⟩ : ∃ q, wr.alloc (.cells #[.string ⟨#[42]⟩, .string ⟨#[95]⟩, .string ⟨#[42, 42]⟩, .string ⟨#[95, 95]⟩] 9) = q := ⟨_, rfl⟩
                    have na : wa.heap[gb]? = some (.cells #[.string ⟨#[42]⟩, .string ⟨#[95]⟩, .string ⟨#[42, 42]⟩, .string ⟨#[95, 95]⟩] 9 (0, 0)) := by rw [← hwa, ← hgb]; exact heap_alloc_new _ _
                    have la : Below wr.heap.size wr wa := by rw [← hwa]; exact below_alloc (Below.refl _ wr) _
                    have cq : wa.cell? ⟨gb, q, none⟩ = some (.string X) := by
                      rw [cell_of_row _ _ _ _ _ _ na, ← hX]
                      have h4 : q = 0 ∨ q = 1 ∨ q = 2 ∨ q = 3 := by omega
                      rcases h4 with rfl | rfl | rfl | rfl <;> rfl
                    have cm : wa.cell? (ad.add i) = some (.int .u8 m) := pw_cell_below (HLS.out.bel.trans (la.mono HLS.out.bel.size)) (hcell i m hm)
                    have q0 : (0 : Int) ≤ (q : Int) := by omega
                    have q1 : (q : Int) < 4 := by omega
                    have i0 : (0 : Int) ≤ (i : Int) := by omega
                    have i1 : (i : Int) < (n : Int) := by omega
                    have HLA : Aside0 (Below wr.heap.size wr wa) := ⟨la⟩
                    clear na la hcell hX hx1 hx2 hX2
                    obtain ⟨LM, hLM⟩ : ∃ q, strOfNums (L0 ++ (opB ms ++ [32, 118, 32] ++ clB (ms.drop (i + 1)).reverse)) = q := ⟨_, rfl⟩
                    rw [hLM]
                    have hlc := clB_len (ms.drop (i + 1)).reverse
                    have hle := lenS_le (ms.drop (i + 1)).reverse
                    have hdl : (ms.drop (i + 1)).reverse.length ≤ 30 := by rw [List.length_reverse, List.length_drop]; have := HLEN.out; have := HN.out; omega
                    have hlz : (LM.size : Int) = p + lenS ms + 3 + lenS (ms.drop (i + 1)).reverse := by
                      rw [← hLM, strOfNums_size]
                      simp only [List.length_append, List.length_cons, List.length_nil]
                      have := HLEN.out
                      have := HP.out
                      omega
                    have hl4 : LM.size ≤ 400 := by have := HLEN.out; omega
                    have s1 : LM.size + 1 ≤ 9223372036854775807 := Nat.le_trans (show LM.size + 1 ≤ 1000 by omega) (by decide)
                    have s2 : LM.size + 1 + X.size ≤ 9223372036854775807 := Nat.le_trans (show LM.size + 1 + X.size ≤ 1000 by have := HX3.out; omega) (by decide)
                    have HLZ := Aside0.mk hlz
                    have HL4 := Aside0.mk hl4
                    have HLM := Aside0.mk hLM
                    have hwi : IntKind.i64.wrap ((i : Int) - 1) = (i : Int) - 1 := IntWalk.i64_in _ (by have := HN.out; omega)
                    have HHM := Aside0.mk hm
                    clear hlc hle hdl hlz hl4 hLM hm
                    go_upto_region 22 with (fail)
                    clear cq cm hwa q0 q1 s1 s2
                    obtain ⟨L2, hL2⟩ : ∃ q, LM ++ (⟨#[119]⟩ : ByteArray) ++ X = q := ⟨_, rfl⟩
                    rw [hL2]
                    have hz2 : L2.size = LM.size + 1 + X.size := by rw [← hL2, ByteArray.size_append, ByteArray.size_append]; rfl
                    have HZ2 := Aside0.mk hz2
                    have HL2 := Aside0.mk hL2
                    have HLSa : Aside0 (LS w wa p ms (i + 1) n (.slice A7 n c7) T) := ⟨HLS.out.below HLA.out⟩
                    obtain ⟨g7, cx, hv7, _⟩ := formV HLSa.out.row (by rw [HLSa.out.ln]; omega)
                    injection hv7 with hv7 _ _
                    subst hv7
                    have hTi := HLSa.out.at_ i m hin HHM.out
                    have y1 : wa.cell? ⟨g7, i * 3 + 1, none⟩ = some (.int .i64 0) := by
                      have := atV HLSa.out.row hTi 1 (.int .i64 0) (by unfold wantAt; rw [if_neg (by omega)]; rfl)
                      exact this
                    obtain ⟨csb, hcsb⟩ := HLSa.out.blk
                    have yf := fun j => blk_frozen hcsb j
                    have s4 : L2.size + 1 ≤ 9223372036854775807 := Nat.le_trans (show L2.size + 1 ≤ 1000 by have := HL4.out; have := HX3.out; omega) (by decide)
                    have HLS9 : Aside0 (LS w (wa.setCell ⟨g7, i * 3 + 1, none⟩ (.int .i64 (L2.size : Int))) p ms i n (.slice (some ⟨g7, 0, none⟩) n c7) (T.set i (wantP p ms i m))) := ⟨HLSa.out.set hin HHM.out _ (by
                      have h1 := HZ2.out
                      have h2 := HLZ.out
                      have h3 := HX2.out
                      omega)⟩
                    have HV : Aside0 (L2 ++ (⟨#[32]⟩ : ByteArray) = strOfNums (L0 ++ (opB ms ++ [32, 118, 32] ++ clB (ms.drop i).reverse))) := ⟨by rw [clB_snoc HHM.out, ← HL2.out, ← HLM.out, HX1.out, lit32, lit119, nums_app, nums_app, nums_app]; congr 1; simp⟩
                    clear hTi hcsb hz2 hL2
                    go_wp2_with (fail)
                    go_roundg i
                    case measure => exact Nat.lt_succ_self _
                    case rel => exact ⟨_, _, rfl, (show Value.string (L2 ++ (⟨#[32]⟩ : ByteArray)) = _ from by rw [HV.out]), ⟨⟨rfl, by omega⟩⟩, HLS9⟩
          case rest =>
            as_aux_lemma =>
              obtain ⟨T, rfl, HLW⟩ := hcut
              obtain ⟨wF, hwF⟩ : ∃ q, wc = q := ⟨_, rfl⟩
              rw [hwF] at HLW ⊢
              clear hwF HLS
              obtain ⟨LM, hLM⟩ : ∃ q, strOfNums (L0 ++ (opB ms ++ [32, 118, 32] ++ clB ms.reverse)) = q := ⟨_, rfl⟩
              rw [hLM]
              obtain ⟨S9, hS9⟩ : ∃ q, LM ++ (⟨#[120, 10]⟩ : ByteArray) = q := ⟨_, rfl⟩
              have HS9 : Aside0 (S9 = strOfNums (laidB L0 ms)) := ⟨by rw [← hS9, ← hLM, litx, nums_app]; unfold laidB; congr 1; simp⟩
              have h9z : S9.size ≤ 500 := by
                have h1 := laid_len L0 ms
                have h2 := lenS_le ms.reverse
                rw [List.length_reverse] at h2
                have h3 := strOfNums_size (laidB L0 ms)
                rw [← HS9.out] at h3
                have := HLEN.out
                have := HP.out
                have := HN.out
                omega
              have s1 : LM.size + 2 ≤ 9223372036854775807 := by
                rw [← hS9, ByteArray.size_append] at h9z
                exact Nat.le_trans (show LM.size + 2 ≤ 500 from h9z) (by decide)
              have H9Z := Aside0.mk h9z
              have HRUNS : Aside0 (runsB S9 0 10000 = opR p ms ++ clR (p + lenS ms + 3) ms.reverse) := ⟨by rw [HS9.out, laid_runs HL0.out.1 HL0.out.2 (by have := HLEN.out; have := HN.out; omega), HP.out]⟩
              have hat : ∀ (j : Nat) (m : Int), ms[j]? = some m → T[j]? = some (wantP p ms j m) := fun j m hm => by
                have := HLW.out.at_ j m (by have := (List.getElem?_eq_some_iff.1 hm).1; have := HLEN.out; omega) hm
                unfold wantAt at this
                rw [if_pos (Nat.zero_le _)] at this
                exact this
              have htl : T.length = ms.length := by rw [HLW.out.ln]; exact HLEN.out.2.2.2.2.2.symm
              have HPERM := Aside0.mk (laid_pairs (p := p) HLEN.out.2.2.2.2.1 (by have := HLEN.out; omega) (by have := HLEN.out; have := HN.out; omega) T htl hat)
              have HSTR := Aside0.mk (want_strict (p := p) T htl hat)
              clear h9z hLM hat htl
              go_upto_region 25 with (fail)
              refine (runs_c S9 0 10000 wF (by have := H9Z.out; omega)).mono ?_
              rintro _ w1 ⟨A1, n1, c1, rfl, hr1, hb1⟩
              rw [HRUNS.out] at hr1
              have hn1 : n1 ≤ 1000 := by
                rw [← hr1.1, List.length_append, opR_len, clR_len, List.length_reverse]
                have := HLEN.out
                have := HN.out
                omega
              have HR1 := Aside0.mk hr1
              have HB1 := Aside0.mk hb1
              clear hr1 hb1 hS9 s1
              go_upto_region 25 with (fail)
              refine (pairs_c A1 n1 c1 _ w1 HR1.out (by omega)).mono ?_
              rintro _ w2 ⟨A2, n2, c2, R, rfl, hp2, hs2, hr2, hb2⟩
              obtain rfl := srt_uniq (hp2.trans HPERM.out) hs2 HSTR.out
              obtain rfl : n2 = n := hr2.1.symm.trans HLW.out.ln
              have HRW : Aside0 (ReadsRow RPr 3 wF A7 n2 R) := ⟨by have h := (Kd.R_reads' HLW.out.row).2.2; rw [HLW.out.ln] at h; exact h⟩
              have bF2 : Below wF.heap.size wF w2 := HB1.out.trans (hb2.mono HB1.out.size)
              have HRW2 := Aside0.mk (rows_below HRW.out bF2)
              have HR2 := Aside0.mk hr2
              have HBW : Aside0 (Below w.heap.size w w2) := ⟨HLW.out.bel.trans (bF2.mono HLW.out.bel.size)⟩
              clear hp2 hs2 hr2 hb2 bF2 hn1
              have hne : ((n2 : Int) != (n2 : Int)) = false := by simp
              go_upto_block 6 with (fail)
              clear hne
              go_wp2_with (fail)
              go_loopg [12] n2 (fun gj v12 wr => ∃ k : Nat, v12 = .int .i64 (k : Int) ∧ Aside0 (k + gj = n2) ∧ Aside0 (Below w2.heap.size w2 wr))
              case atStart => exact ⟨0, rfl, ⟨by omega⟩, ⟨Below.refl _ w2⟩⟩
              case round =>
                as_aux_lemma =>
                  obtain ⟨k, rfl, HKJ, HBJ⟩ := hrel
                  by_cases hk : k < n2
                  case neg =>
                    have hkk : ¬ ((k : Int) < (n2 : Int)) := by omega
                    have HBE : Aside0 (Below w.heap.size w wr) := ⟨HBW.out.trans (HBJ.out.mono HBW.out.size)⟩
                    have HRD := Aside0.mk (reads_c wr)
                    go_wp2_with (go_at_call 11; refine HRD.out.mono ?_; rintro _ w9 ⟨rfl, h9⟩; have HB9 := Aside0.mk h9; clear h9)
                    go_ret
                    exact ⟨rfl, HBE.out.trans (HB9.out.mono HBE.out.size)⟩
                  case pos =>
                    obtain ⟨gj, rfl⟩ : ∃ gj', gk = gj' + 1 := ⟨gk - 1, by have := HKJ.out; omega⟩
                    obtain ⟨x, hx⟩ : ∃ x, R[k]? = some x := ⟨_, List.getElem?_eq_getElem (by rw [HR2.out.1]; exact hk)⟩
                    obtain ⟨ad2, hA2, _⟩ := HR2.out.2.2 (by omega)
                    obtain ⟨ad7, hA7, _⟩ := HRW2.out.2.2 (by omega)
                    subst hA2
                    subst hA7
                    obtain ⟨x0, x1, x2⟩ := pr_at (rows_below HR2.out HBJ.out) hx
                    obtain ⟨y0, y1, y2⟩ := pr_at (rows_below HRW2.out HBJ.out) hx
                    have k0 : (0 : Int) ≤ (k : Int) := by omega
                    have k1 : (k : Int) < (n2 : Int) := by omega
                    have hwk : IntKind.i64.wrap ((k : Int) + 1) = (k : Int) + 1 := IntWalk.i64_in _ (by have := HN.out; omega)
                    clear hx
                    go_upto_region 30 with (fail)
                    go_quiet (fail)
                    have HBJ2 : Aside0 (Below w2.heap.size w2 (wr.drewN nq)) := ⟨pw_below_drewN HBJ.out nq⟩
                    go_wp2_with (fail)
                    go_roundg gj
                    case measure => exact Nat.lt_succ_self _
                    case rel => exact ⟨k + 1, by simp, ⟨by have := HKJ.out; omega⟩, HBJ2⟩

end Go.Proofs.Ytjfpkldknchnkaa.Me
