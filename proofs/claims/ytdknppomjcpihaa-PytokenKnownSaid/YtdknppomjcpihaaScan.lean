/- pytoken.Scan: what it tells is scanM's. -/
import Derived.Test.YtdknppomjcpihaaTake
import Derived.Deep.DeepCutAuto
namespace Go.Proofs.Ytdknppomjcpihaa.PPy
open Go.RowKit Go.Proofs.YtdknppomjcpihaaW.PrintWords Go.Proofs.YtdknppomjcpihaaW.PrintLast Go.Proofs.YtdknppomjcpihaaW.PrintMore
attribute [local go_sem] max2_int min2_int max_two min_two max_three min_three max_four min_four

theorem trim_c (a : ByteArray) (ha : a.size ≤ 1000000) (w : World) :
    Calls Try.prog 17 #[.string a, .string ⟨#[13]⟩] w fun e w' => e = .returned (.string (if a.size ≥ 1 ∧ (a.extract (a.size - 1) a.size).toList = [13] then a.extract 0 (a.size - 1) else a)) ∧ Drawn0 w w' := by
  refine PPl.strings_TrimSuffix.calls a _ _ w ?_
  have e13 : (⟨#[13]⟩ : ByteArray).size = 1 := rfl
  have l13 : (⟨#[13]⟩ : ByteArray).toList = [13] := by rw [ByteArray.toList_eq]
  unfold PPl.strings_TrimSuffix.f PPl.stringslite_TrimSuffix.f PPl.stringslite_HasSuffix.f
  rw [e13, l13]
  by_cases h : 1 ≤ a.size
  · have hw : wrap64 ((a.size : Int) - ((1 : Nat) : Int)) = (a.size : Int) - 1 := IntWalk.wrap64_in _ (by omega)
    have hn : ((a.size : Int) - 1).toNat = a.size - 1 := by omega
    rw [hw, hn, if_pos (show (a.size : Int) ≥ ((1 : Nat) : Int) by omega), if_pos (show 0 ≤ (a.size : Int) - 1 by omega), if_pos (show (a.size : Int) - 1 ≤ (a.size : Int) by omega)]
    simp only [Option.bind_some]
    by_cases hs : (a.extract (a.size - 1) a.size).toList = [13]
    · rw [if_pos (by rw [hs]; rfl), if_pos (show 0 ≤ (a.size : Int) - 1 by omega), if_pos (show (a.size : Int) - 1 ≤ (a.size : Int) by omega), if_pos ⟨h, hs⟩]
      rfl
    · rw [if_neg (by simpa using hs), if_neg (fun c => hs c.2)]
      rfl
  · rw [if_neg (show ¬ (a.size : Int) ≥ ((1 : Nat) : Int) by omega), if_neg (show ¬ (a.size ≥ 1 ∧ (a.extract (a.size - 1) a.size).toList = [13]) from fun c => h c.1)]
    rfl

theorem ix_lt (s : ByteArray) (c : UInt8) (h : 0 ≤ Lib.indexByte s.data.toList c) : Lib.indexByte s.data.toList c < (s.size : Int) := by
  obtain ⟨o, ho⟩ : ∃ o : Nat, Lib.indexByte s.data.toList c = o := ⟨_, (Int.toNat_of_nonneg h).symm⟩
  have h1 := (Lib.indexByte_some ho).1
  have h2 := (List.getElem?_eq_some_iff.1 h1).1
  have h3 : s.data.toList.length = s.size := Array.length_toList
  omega

theorem R_put25 {B b : Nat} {w : World} {cs : Array Value} {v : Value} {l : List S33} (hh : w.heap[b]? = some (.cells cs 25 (0, 0))) (hr : Kd.R k33 33 w B (fun _ => True) v l) (j : Nat) (u : Value) :
    (w.setCell ⟨b, j, none⟩ u).heap[b]? = some (.cells (cs.setIfInBounds j u) 25 (0, 0)) ∧ Kd.R k33 33 (w.setCell ⟨b, j, none⟩ u) B (fun _ => True) v l :=
  ⟨heap_setCell_same w b j cs 25 u hh, Kd.R_set hr hh (by decide) j u⟩
theorem scan_end {W : World} {g B : Nat} {a0 a1 a2 a3 a4 a5 v : Value} {l : List S33} (hg : W.heap[g]? = some (.cells #[a0, a1, a2, a3, a4, a5] 25 (0, 0))) (hr : Kd.R k33 33 W B (fun _ => True) v l) (v0 v1 v2 v3 v4 v5 : Value) :
    ((((((W.setCell ⟨g, 0, none⟩ v0).setCell ⟨g, 1, none⟩ v1).setCell ⟨g, 2, none⟩ v2).setCell ⟨g, 3, none⟩ v3).setCell ⟨g, 4, none⟩ v4).setCell ⟨g, 5, none⟩ v5).heap[g]? = some (.cells #[v0, v1, v2, v3, v4, v5] 25 (0, 0)) ∧
    Kd.R k33 33 ((((((W.setCell ⟨g, 0, none⟩ v0).setCell ⟨g, 1, none⟩ v1).setCell ⟨g, 2, none⟩ v2).setCell ⟨g, 3, none⟩ v3).setCell ⟨g, 4, none⟩ v4).setCell ⟨g, 5, none⟩ v5) B (fun _ => True) v l := by
  obtain ⟨h0, r0⟩ := R_put25 hg hr 0 v0
  obtain ⟨h1, r1⟩ := R_put25 h0 r0 1 v1
  obtain ⟨h2, r2⟩ := R_put25 h1 r1 2 v2
  obtain ⟨h3, r3⟩ := R_put25 h2 r2 3 v3
  obtain ⟨h4, r4⟩ := R_put25 h3 r3 4 v4
  obtain ⟨h5, r5⟩ := R_put25 h4 r4 5 v5
  exact ⟨h5, r5⟩
theorem RdAt.row {B b : Nat} {w : World} {r : Rd} (h : RdAt B w b r) (A : Option Addr) (c : Nat) (hc : w.cell? ⟨b, 2, none⟩ = some (.slice A r.ev.length c)) : Kd.R k33 33 w B (fun _ => True) (.slice A r.ev.length c) r.ev := by
  obtain ⟨A2, c2, hr, _, _, _, e2, _⟩ := h.open
  rw [hc] at e2
  injection Option.some.inj e2 with h1 h2 h3
  subst h1; subst h3
  exact hr

set_option maxRecDepth 100000 in
set_option maxHeartbeats 4000000 in
theorem scan_w (line : ByteArray) (pos mark depth : Int) (w : World) (hz : line.size ≤ 1000000) (hm : 0 ≤ mark ∧ mark ≤ 255) (res : Rd) (hres : scanM line pos mark depth = res) :
    Calls Try.prog 10 #[.string line, .int .i64 pos, .int .u8 mark, .int .i64 depth] w fun e w' => (∃ v0_ : Value, e = .returned (.agg #[v0_, .int .u8 res.mark, .int .i64 res.depth, .bool res.join, .bool res.any, .bool res.colon]) ∧ Kd.R k33 33 w' w.heap.size (fun _ => True) v0_ res.ev) ∧ Below w.heap.size w w' := by
  obtain ⟨L, hL⟩ : ∃ L, lineOf line = L := ⟨_, rfl⟩
  have HL := Aside0.mk hL
  have HRES := Aside0.mk hres
  clear hL hres
  go_enter Try.func10, Try.ntmps10
  go_upto_if 16 with (fail)
  refine (Try.strings_IndexByte _ _ _).mono ?_
  rintro _ w1 ⟨rfl, rfl⟩
  have hL := HL.out
  unfold lineOf at hL
  obtain ⟨ix, hix⟩ : ∃ ix, Lib.indexByte line.data.toList 10 = ix := ⟨_, rfl⟩
  have hix2 := ix_lt line 10
  rw [hix] at hL hix2
  have HIX := Aside0.mk hix
  have HL2 := Aside0.mk hL
  have HI2 := Aside0.mk hix2
  rw [show Lib.indexByte line.data.toList (Int.toNat 10).toUInt8 = ix from hix]
  clear hix hL hix2
  go_upto_if 16 with (fail)
  obtain ⟨W1, hW1⟩ : ∃ W1, w.alloc (.cells #[.slice none 0 0, .int .u8 0, .int .i64 0, .bool false, .bool false, .bool false] 25) = W1 := ⟨_, rfl⟩
  have HW1 := Aside0.mk hW1
  rw [hW1]
  clear hW1
  obtain ⟨ib, hib⟩ : ∃ ib, decide (0 ≤ ix) = ib := ⟨_, rfl⟩
  rw [hib]
  have HIB := Aside0.mk hib
  clear hib
  go_cut [0] (fun v wc => v = .string L ∧ Aside0 (Drawn0 W1 wc))
  case first =>
    cases ib with
    | true =>
      have c1 : 0 ≤ ix := of_decide_eq_true HIB.out
      have hl := HL2.out
      rw [if_pos c1] at hl
      have h2 := HI2.out c1
      obtain ⟨a, ha⟩ : ∃ a, line.extract 0 ix.toNat = a := ⟨_, rfl⟩
      rw [ha] at hl
      have hsa : a.size ≤ 1000000 := by rw [← ha, ByteArray.size_extract]; omega
      have HA := Aside0.mk ha
      have HLL := Aside0.mk hl
      have p0 : 0 ≤ ix := c1
      have q0 : ix ≤ (line.size : Int) := by omega
      clear hl h2 c1 ha
      replace p0 := eq_true p0
      replace q0 := eq_true q0
      have ha := HA.out
      go_wp2_with (fail)
      refine (trim_c a hsa _).mono ?_
      rintro _ w2 ⟨rfl, hd⟩
      rw [HLL.out]
      have H2 := Aside0.mk hd
      clear hd
      go_wp2_with (fail)
      go_meet
      case rel => exact ⟨rfl, H2⟩
    | false =>
      have c1 : ¬ (0 ≤ ix) := of_decide_eq_false HIB.out
      have hl := HL2.out
      rw [if_neg c1] at hl
      have HLL := Aside0.mk hl
      clear hl c1
      go_wp2_with (fail)
      go_meet
      case rel => exact ⟨congrArg Value.string HLL.out, ⟨Drawn0.refl _⟩⟩
  case rest =>
    obtain ⟨rfl, HD⟩ := hcut
    obtain ⟨p0, hp0⟩ : ∃ p0, (if pos < 0 then 0 else pos) = p0 := ⟨_, rfl⟩
    obtain ⟨d0, hd0⟩ : ∃ d0, (if depth < 0 then 0 else if depth ≤ 1048576 then depth else 1048576) = d0 := ⟨_, rfl⟩
    obtain ⟨m0, hm0⟩ : ∃ m0, (if mark ≤ 4 then mark else 0) = m0 := ⟨_, rfl⟩
    have HP0 := Aside0.mk hp0
    have HD0 := Aside0.mk hd0
    have HM0 := Aside0.mk hm0
    have HSZ : Aside0 (W1.heap.size = w.heap.size + 1) := ⟨by rw [← HW1.out]; exact World.size_alloc _ _⟩
    clear hp0 hd0 hm0
    go_upto_region 5 with (fail)
    rw [HP0.out]
    obtain ⟨W2, hW2⟩ : ∃ W2, wc.alloc (.cells #[.string L, .int .i64 p0, .slice none 0 0, .int .u8 0, .int .i64 0, .bool false, .bool false, .bool false] 50) = W2 := ⟨_, rfl⟩
    rw [hW2]
    obtain ⟨b, hb⟩ : ∃ b, wc.heap.size = b := ⟨_, rfl⟩
    rw [hb]
    have hsz1 : wc.heap.size = W1.heap.size := by obtain ⟨n, hn⟩ := HD.out; rw [hn]; rfl
    have HB2 : Aside0 (Below W1.heap.size W1 W2) := ⟨by rw [← hW2]; exact (drawn_below HD.out).alloc (by omega) _⟩
    have H2 : Aside0 (RdAt W1.heap.size W2 b ⟨L, p0, [], 0, 0, false, false, false⟩) := ⟨⟨by omega, .slice none 0 0, by rw [← hW2, ← hb]; exact heap_alloc_new _ _, Kd.R_nil _ _ _ _ _⟩⟩
    clear hW2 hb hsz1 HD
    obtain ⟨A, c, hr, hh, c0, c1, c2, c3, c4, c5, c6, c7, hf⟩ := H2.out.open
    clear hr hh c0 c1 c2 c3 c5 c6 c7
    have hdd : (if 1048576 < if depth < 0 then 0 else depth then (1048576 : Int) else if depth < 0 then 0 else depth) = d0 := by rw [← HD0.out]; (repeat' split) <;> omega
    have HDD := Aside0.mk hdd
    clear hdd
    go_upto_region 6 with (fail)
    rw [HDD.out]
    obtain ⟨dx, hdx⟩ : ∃ dx, (if depth < 0 then 0 else depth) = dx := ⟨_, rfl⟩
    rw [hdx]
    clear hdx
    have H3 := Aside0.mk (H2.out.setDepth d0)
    have HB3 : Aside0 (Below W1.heap.size W1 (W2.setCell ⟨b, 4, none⟩ (.int .i64 d0))) := ⟨HB2.out.setCell (p := ⟨b, 4, none⟩) H2.out.1 _⟩
    obtain ⟨W3, hW3⟩ : ∃ W3, W2.setCell ⟨b, 4, none⟩ (.int .i64 d0) = W3 := ⟨_, rfl⟩
    rw [hW3] at H3 HB3 ⊢
    have hB := H2.out.1
    clear hW3 H2 HB2 c4 hf
    obtain ⟨A, c, hr, hh, c0, c1, c2, c3, c4, c5, c6, c7, hf⟩ := H3.out.open
    clear hr hh c0 c1 c2 c4 c5 c6 c7
    go_upto_if 34 with (fail)
    obtain ⟨ib2, hib2⟩ : ∃ ib2, decide (mark ≤ 4) = ib2 := ⟨_, rfl⟩
    rw [hib2]
    have HIB2 := Aside0.mk hib2
    clear hib2
    go_cut [] (fun wc => Aside0 (RdAt W1.heap.size wc b ⟨L, p0, [], m0, d0, false, false, false⟩) ∧ Aside0 (Below W1.heap.size W1 wc))
    case first =>
      cases ib2 with
      | true =>
        have hm0 := HM0.out
        rw [if_pos (of_decide_eq_true HIB2.out)] at hm0
        have HM1 := Aside0.mk hm0
        clear hm0
        go_wp2_with (fail)
        go_meet
        case rel => exact ⟨⟨by rw [← HM1.out]; exact H3.out.setMark mark⟩, ⟨HB3.out.setCell (p := ⟨b, 3, none⟩) hB _⟩⟩
      | false =>
        have hm0 := HM0.out
        rw [if_neg (of_decide_eq_false HIB2.out)] at hm0
        have HM1 := Aside0.mk hm0
        clear hm0
        go_wp2_with (fail)
        go_meet
        case rel => exact ⟨⟨by rw [← HM1.out]; exact H3.out⟩, HB3⟩
    case rest =>
      clear H3 HB3
      obtain ⟨H3, HB3⟩ := hcut
      have hini : Rd.init line pos mark depth = ⟨L, p0, [], m0, d0, false, false, false⟩ := by
        unfold Rd.init
        rw [HL.out, HP0.out, HD0.out, HM0.out]
      have hok := Rd.Ok.init (line := line) (pos := pos) (mark := mark) (depth := depth) hz hm.1
      have hres := HRES.out
      unfold scanM at hres
      rw [hini, HL.out] at hres
      rw [hini] at hok
      obtain ⟨r0, hr0⟩ : ∃ r0 : Rd, (⟨L, p0, [], m0, d0, false, false, false⟩ : Rd) = r0 := ⟨_, rfl⟩
      have hs0 : r0.s = L := by rw [← hr0]
      have hp0 : 0 ≤ r0.pos := by rw [hr0] at hok; exact hok.p0
      rw [hr0] at H3 hok hres
      have HOK := Aside0.mk hok
      have HRES2 := Aside0.mk hres
      have HS0 := Aside0.mk hs0
      clear hini hok hres hr0 hs0 HRES HL2 HI2 HIX HP0 HD0 HM0 HDD HIB HIB2 c3 hf
      go_wp2_with (fail)
      go_loopg [] (L.size + 1) (fun g wr => ∃ (r : Rd), Aside0 (RdAt W1.heap.size wr b r) ∧ Aside0 (Below W1.heap.size W1 wr) ∧ Aside0 r.Ok ∧ Aside0 (r.s = L) ∧ Aside0 ((L.size : Int) + 1 - r.pos ≤ g) ∧ Aside0 (res = scanL g r))
      case atStart => exact ⟨r0, H3, HB3, HOK, HS0, ⟨by omega⟩, ⟨HRES2.out.symm⟩⟩
      case round =>
        clear H3 HB3 HOK HS0 HRES2
        obtain ⟨r, H1, HB, HOK, HS, HG, HT⟩ := hrel
        obtain ⟨A, c, hr, hh, c0, c1, c2, c3, c4, c5, c6, c7, hf⟩ := H1.out.open
        rw [HS.out] at c0
        clear hr hh
        by_cases hlt : r.pos < (L.size : Int)
        · obtain ⟨g, rfl⟩ : ∃ g, gk = g + 1 := ⟨gk - 1, by have := HG.out; omega⟩
          have hstep := HOK.out.step (by rw [HS.out]; exact hlt)
          have ht := HT.out
          simp only [scanL] at ht
          rw [if_pos (by rw [HS.out]; exact hlt)] at ht
          have HT2 := Aside0.mk ht
          have HSTEP := Aside0.mk hstep
          have HLT := Aside0.mk hlt
          have b1 : decide (r.pos < (L.size : Int)) = true := decide_eq_true hlt
          clear ht hstep hlt HT
          go_wp2_with (fail)
          go_quiet (fail)
          go_wp2_with (fail)
          have hsz9 : (wr.drewN nq).heap.size = wr.heap.size := rfl
          obtain ⟨Wa, hWa⟩ : ∃ Wa, (wr.drewN nq).alloc (.cells #[.func (.func 18) #[] #[], .func (.func 19) #[] #[], .func (.func 20) #[] #[], .func (.func 21) #[] #[], .func (.func 22) #[] #[], .func (.func 23) #[] #[], .func (.func 24) #[] #[], .func (.func 25) #[] #[], .func (.func 26) #[] #[]] 51) = Wa := ⟨_, rfl⟩
          rw [hWa]
          have H2 : Aside0 (RdAt W1.heap.size Wa b r) := ⟨by rw [← hWa]; exact (H1.out.drawn ⟨_, rfl⟩).below ((Below.refl _ _).alloc (Nat.le_refl _) _)⟩
          have hBb := H1.out.1
          have HB2 : Aside0 (Below W1.heap.size W1 Wa) := ⟨by rw [← hWa]; exact (HB.out.trans (drawn_below ⟨_, rfl⟩)).alloc (by have := H1.out.lt; omega) _⟩
          have hFA : Wa.heap[wr.heap.size]? = some (.cells #[.func (.func 18) #[] #[], .func (.func 19) #[] #[], .func (.func 20) #[] #[], .func (.func 21) #[] #[], .func (.func 22) #[] #[], .func (.func 23) #[] #[], .func (.func 24) #[] #[], .func (.func 25) #[] #[], .func (.func 26) #[] #[]] 51 (0, 0)) := by
            rw [← hWa]; exact heap_alloc_new (wr.drewN nq) _
          have HFA := Aside0.mk hFA
          clear hFA hWa c0 c1 c2 c3 c4 c5 c6 c7 hf b1 H1 HB hsz9
          obtain ⟨a, ha⟩ : ∃ a, wr.heap.size = a := ⟨_, rfl⟩
          try rw [show (wr.drewN nq).heap.size = a from ha]
          try rw [ha]
          rw [ha] at HFA
          clear ha
          go_loopg [52] 10 (fun gi v52 wi => ∃ (J : Nat) (Ji : Int), v52 = .int .i64 Ji ∧ Ji = (J : Int) ∧ J ≤ r.pick ∧ Aside0 (RdAt W1.heap.size wi b r) ∧ Aside0 (Below W1.heap.size W1 wi) ∧ Aside0 (wi.heap[a]? = some (.cells #[.func (.func 18) #[] #[], .func (.func 19) #[] #[], .func (.func 20) #[] #[], .func (.func 21) #[] #[], .func (.func 22) #[] #[], .func (.func 23) #[] #[], .func (.func 24) #[] #[], .func (.func 25) #[] #[], .func (.func 26) #[] #[]] 51 (0, 0))) ∧ Aside0 (10 - J ≤ gi))
          case atStart => exact ⟨0, 0, rfl, rfl, Nat.zero_le _, H2, HB2, HFA, ⟨by omega⟩⟩
          case round =>
            clear H2 HB2 HFA
            obtain ⟨J, Ji, rfl, hji, hJ, H1, HB, HFA, HGI⟩ := hrel
            have hpl := pick_le r
            obtain ⟨gi, rfl⟩ : ∃ gi, gk = gi + 1 := ⟨gk - 1, by have := HGI.out; omega⟩
            have HGI1 : Aside0 (10 - (J + 1) ≤ gi) := ⟨by have := HGI.out; omega⟩
            have hJ9 : J = 0 ∨ J = 1 ∨ J = 2 ∨ J = 3 ∨ J = 4 ∨ J = 5 ∨ J = 6 ∨ J = 7 ∨ J = 8 := by omega
            clear hpl HGI
            rcases hJ9 with rfl | rfl | rfl | rfl | rfl | rfl | rfl | rfl | rfl
            · obtain rfl : Ji = 0 := hji
              have hc := cell_of_row _ a 0 _ _ _ HFA.out
              go_wp2_with (fail)
              refine (take0 H1.out HOK.out (by rw [HS.out]; exact HLT.out)).mono ?_
              rintro _ w4 ⟨rfl, H4, hb4, hn4⟩
              have HB5 := Aside0.mk (HB.out.trans hb4)
              have HN4 := Aside0.mk hn4
              have HFA4 := Aside0.mk HFA.out
              obtain ⟨pb, hpb⟩ : ∃ pb, decide (r.pick = 0) = pb := ⟨_, rfl⟩
              rw [hpb]
              have HPB := Aside0.mk hpb
              clear hpb hb4 HB hc H1 HFA hn4
              cases pb with
              | true =>
                have hpk := of_decide_eq_true HPB.out
                rw [if_pos hpk] at H4
                have H5 := Aside0.mk H4
                clear H4 hpk
                go_wp2_with (fail)
                go_roundg g
                case measure => exact Nat.lt_succ_self _
                case rel => exact ⟨r.step, H5, HB5, ⟨HSTEP.out.1⟩, ⟨HSTEP.out.2.2.trans HS.out⟩, ⟨by have := HSTEP.out.2.1; have := HG.out; omega⟩, HT2⟩
              | false =>
                have hpk := of_decide_eq_false HPB.out
                have HFA5 := Aside0.mk (((HN4.out hpk).block a (Array.getElem?_eq_some_iff.1 HFA4.out).1).trans HFA4.out)
                rw [if_neg hpk] at H4
                have H5 := Aside0.mk H4
                have hJ2 : Aside0 (1 ≤ r.pick) := ⟨by omega⟩
                clear H4 hpk
                go_wp2_with (fail)
                go_roundg gi
                case measure => exact Nat.lt_succ_self _
                case rel => exact ⟨1, 1, rfl, rfl, hJ2.out, H5, HB5, HFA5, HGI1⟩
            · obtain rfl : Ji = 1 := hji
              have hc := cell_of_row _ a 1 _ _ _ HFA.out
              go_wp2_with (fail)
              refine (take1 H1.out HOK.out (by rw [HS.out]; exact HLT.out) hJ).mono ?_
              rintro _ w4 ⟨rfl, H4, hb4, hn4⟩
              have HB5 := Aside0.mk (HB.out.trans hb4)
              have HN4 := Aside0.mk hn4
              have HFA4 := Aside0.mk HFA.out
              obtain ⟨pb, hpb⟩ : ∃ pb, decide (r.pick = 1) = pb := ⟨_, rfl⟩
              rw [hpb]
              have HPB := Aside0.mk hpb
              clear hpb hb4 HB hc H1 HFA hn4
              cases pb with
              | true =>
                have hpk := of_decide_eq_true HPB.out
                rw [if_pos hpk] at H4
                have H5 := Aside0.mk H4
                clear H4 hpk
                go_wp2_with (fail)
                go_roundg g
                case measure => exact Nat.lt_succ_self _
                case rel => exact ⟨r.step, H5, HB5, ⟨HSTEP.out.1⟩, ⟨HSTEP.out.2.2.trans HS.out⟩, ⟨by have := HSTEP.out.2.1; have := HG.out; omega⟩, HT2⟩
              | false =>
                have hpk := of_decide_eq_false HPB.out
                have HFA5 := Aside0.mk (((HN4.out hpk).block a (Array.getElem?_eq_some_iff.1 HFA4.out).1).trans HFA4.out)
                rw [if_neg hpk] at H4
                have H5 := Aside0.mk H4
                have hJ2 : Aside0 (2 ≤ r.pick) := ⟨by omega⟩
                clear H4 hpk
                go_wp2_with (fail)
                go_roundg gi
                case measure => exact Nat.lt_succ_self _
                case rel => exact ⟨2, 2, rfl, rfl, hJ2.out, H5, HB5, HFA5, HGI1⟩
            · obtain rfl : Ji = 2 := hji
              have hc := cell_of_row _ a 2 _ _ _ HFA.out
              go_wp2_with (fail)
              refine (take2 H1.out HOK.out (by rw [HS.out]; exact HLT.out) hJ).mono ?_
              rintro _ w4 ⟨rfl, H4, hb4, hn4⟩
              have HB5 := Aside0.mk (HB.out.trans hb4)
              have HN4 := Aside0.mk hn4
              have HFA4 := Aside0.mk HFA.out
              obtain ⟨pb, hpb⟩ : ∃ pb, decide (r.pick = 2) = pb := ⟨_, rfl⟩
              rw [hpb]
              have HPB := Aside0.mk hpb
              clear hpb hb4 HB hc H1 HFA hn4
              cases pb with
              | true =>
                have hpk := of_decide_eq_true HPB.out
                rw [if_pos hpk] at H4
                have H5 := Aside0.mk H4
                clear H4 hpk
                go_wp2_with (fail)
                go_roundg g
                case measure => exact Nat.lt_succ_self _
                case rel => exact ⟨r.step, H5, HB5, ⟨HSTEP.out.1⟩, ⟨HSTEP.out.2.2.trans HS.out⟩, ⟨by have := HSTEP.out.2.1; have := HG.out; omega⟩, HT2⟩
              | false =>
                have hpk := of_decide_eq_false HPB.out
                have HFA5 := Aside0.mk (((HN4.out hpk).block a (Array.getElem?_eq_some_iff.1 HFA4.out).1).trans HFA4.out)
                rw [if_neg hpk] at H4
                have H5 := Aside0.mk H4
                have hJ2 : Aside0 (3 ≤ r.pick) := ⟨by omega⟩
                clear H4 hpk
                go_wp2_with (fail)
                go_roundg gi
                case measure => exact Nat.lt_succ_self _
                case rel => exact ⟨3, 3, rfl, rfl, hJ2.out, H5, HB5, HFA5, HGI1⟩
            · obtain rfl : Ji = 3 := hji
              have hc := cell_of_row _ a 3 _ _ _ HFA.out
              go_wp2_with (fail)
              refine (take3 H1.out HOK.out (by rw [HS.out]; exact HLT.out) hJ).mono ?_
              rintro _ w4 ⟨rfl, H4, hb4, hn4⟩
              have HB5 := Aside0.mk (HB.out.trans hb4)
              have HN4 := Aside0.mk hn4
              have HFA4 := Aside0.mk HFA.out
              obtain ⟨pb, hpb⟩ : ∃ pb, decide (r.pick = 3) = pb := ⟨_, rfl⟩
              rw [hpb]
              have HPB := Aside0.mk hpb
              clear hpb hb4 HB hc H1 HFA hn4
              cases pb with
              | true =>
                have hpk := of_decide_eq_true HPB.out
                rw [if_pos hpk] at H4
                have H5 := Aside0.mk H4
                clear H4 hpk
                go_wp2_with (fail)
                go_roundg g
                case measure => exact Nat.lt_succ_self _
                case rel => exact ⟨r.step, H5, HB5, ⟨HSTEP.out.1⟩, ⟨HSTEP.out.2.2.trans HS.out⟩, ⟨by have := HSTEP.out.2.1; have := HG.out; omega⟩, HT2⟩
              | false =>
                have hpk := of_decide_eq_false HPB.out
                have HFA5 := Aside0.mk (((HN4.out hpk).block a (Array.getElem?_eq_some_iff.1 HFA4.out).1).trans HFA4.out)
                rw [if_neg hpk] at H4
                have H5 := Aside0.mk H4
                have hJ2 : Aside0 (4 ≤ r.pick) := ⟨by omega⟩
                clear H4 hpk
                go_wp2_with (fail)
                go_roundg gi
                case measure => exact Nat.lt_succ_self _
                case rel => exact ⟨4, 4, rfl, rfl, hJ2.out, H5, HB5, HFA5, HGI1⟩
            · obtain rfl : Ji = 4 := hji
              have hc := cell_of_row _ a 4 _ _ _ HFA.out
              go_wp2_with (fail)
              refine (take4 H1.out HOK.out (by rw [HS.out]; exact HLT.out) hJ).mono ?_
              rintro _ w4 ⟨rfl, H4, hb4, hn4⟩
              have HB5 := Aside0.mk (HB.out.trans hb4)
              have HN4 := Aside0.mk hn4
              have HFA4 := Aside0.mk HFA.out
              obtain ⟨pb, hpb⟩ : ∃ pb, decide (r.pick = 4) = pb := ⟨_, rfl⟩
              rw [hpb]
              have HPB := Aside0.mk hpb
              clear hpb hb4 HB hc H1 HFA hn4
              cases pb with
              | true =>
                have hpk := of_decide_eq_true HPB.out
                rw [if_pos hpk] at H4
                have H5 := Aside0.mk H4
                clear H4 hpk
                go_wp2_with (fail)
                go_roundg g
                case measure => exact Nat.lt_succ_self _
                case rel => exact ⟨r.step, H5, HB5, ⟨HSTEP.out.1⟩, ⟨HSTEP.out.2.2.trans HS.out⟩, ⟨by have := HSTEP.out.2.1; have := HG.out; omega⟩, HT2⟩
              | false =>
                have hpk := of_decide_eq_false HPB.out
                have HFA5 := Aside0.mk (((HN4.out hpk).block a (Array.getElem?_eq_some_iff.1 HFA4.out).1).trans HFA4.out)
                rw [if_neg hpk] at H4
                have H5 := Aside0.mk H4
                have hJ2 : Aside0 (5 ≤ r.pick) := ⟨by omega⟩
                clear H4 hpk
                go_wp2_with (fail)
                go_roundg gi
                case measure => exact Nat.lt_succ_self _
                case rel => exact ⟨5, 5, rfl, rfl, hJ2.out, H5, HB5, HFA5, HGI1⟩
            · obtain rfl : Ji = 5 := hji
              have hc := cell_of_row _ a 5 _ _ _ HFA.out
              go_wp2_with (fail)
              refine (take5 H1.out HOK.out (by rw [HS.out]; exact HLT.out) hJ).mono ?_
              rintro _ w4 ⟨rfl, H4, hb4, hn4⟩
              have HB5 := Aside0.mk (HB.out.trans hb4)
              have HN4 := Aside0.mk hn4
              have HFA4 := Aside0.mk HFA.out
              obtain ⟨pb, hpb⟩ : ∃ pb, decide (r.pick = 5) = pb := ⟨_, rfl⟩
              rw [hpb]
              have HPB := Aside0.mk hpb
              clear hpb hb4 HB hc H1 HFA hn4
              cases pb with
              | true =>
                have hpk := of_decide_eq_true HPB.out
                rw [if_pos hpk] at H4
                have H5 := Aside0.mk H4
                clear H4 hpk
                go_wp2_with (fail)
                go_roundg g
                case measure => exact Nat.lt_succ_self _
                case rel => exact ⟨r.step, H5, HB5, ⟨HSTEP.out.1⟩, ⟨HSTEP.out.2.2.trans HS.out⟩, ⟨by have := HSTEP.out.2.1; have := HG.out; omega⟩, HT2⟩
              | false =>
                have hpk := of_decide_eq_false HPB.out
                have HFA5 := Aside0.mk (((HN4.out hpk).block a (Array.getElem?_eq_some_iff.1 HFA4.out).1).trans HFA4.out)
                rw [if_neg hpk] at H4
                have H5 := Aside0.mk H4
                have hJ2 : Aside0 (6 ≤ r.pick) := ⟨by omega⟩
                clear H4 hpk
                go_wp2_with (fail)
                go_roundg gi
                case measure => exact Nat.lt_succ_self _
                case rel => exact ⟨6, 6, rfl, rfl, hJ2.out, H5, HB5, HFA5, HGI1⟩
            · obtain rfl : Ji = 6 := hji
              have hc := cell_of_row _ a 6 _ _ _ HFA.out
              go_wp2_with (fail)
              refine (take6 H1.out HOK.out (by rw [HS.out]; exact HLT.out) hJ).mono ?_
              rintro _ w4 ⟨rfl, H4, hb4, hn4⟩
              have HB5 := Aside0.mk (HB.out.trans hb4)
              have HN4 := Aside0.mk hn4
              have HFA4 := Aside0.mk HFA.out
              obtain ⟨pb, hpb⟩ : ∃ pb, decide (r.pick = 6) = pb := ⟨_, rfl⟩
              rw [hpb]
              have HPB := Aside0.mk hpb
              clear hpb hb4 HB hc H1 HFA hn4
              cases pb with
              | true =>
                have hpk := of_decide_eq_true HPB.out
                rw [if_pos hpk] at H4
                have H5 := Aside0.mk H4
                clear H4 hpk
                go_wp2_with (fail)
                go_roundg g
                case measure => exact Nat.lt_succ_self _
                case rel => exact ⟨r.step, H5, HB5, ⟨HSTEP.out.1⟩, ⟨HSTEP.out.2.2.trans HS.out⟩, ⟨by have := HSTEP.out.2.1; have := HG.out; omega⟩, HT2⟩
              | false =>
                have hpk := of_decide_eq_false HPB.out
                have HFA5 := Aside0.mk (((HN4.out hpk).block a (Array.getElem?_eq_some_iff.1 HFA4.out).1).trans HFA4.out)
                rw [if_neg hpk] at H4
                have H5 := Aside0.mk H4
                have hJ2 : Aside0 (7 ≤ r.pick) := ⟨by omega⟩
                clear H4 hpk
                go_wp2_with (fail)
                go_roundg gi
                case measure => exact Nat.lt_succ_self _
                case rel => exact ⟨7, 7, rfl, rfl, hJ2.out, H5, HB5, HFA5, HGI1⟩
            · obtain rfl : Ji = 7 := hji
              have hc := cell_of_row _ a 7 _ _ _ HFA.out
              go_wp2_with (fail)
              refine (take7 H1.out HOK.out (by rw [HS.out]; exact HLT.out) hJ).mono ?_
              rintro _ w4 ⟨rfl, H4, hb4, hn4⟩
              have HB5 := Aside0.mk (HB.out.trans hb4)
              have HN4 := Aside0.mk hn4
              have HFA4 := Aside0.mk HFA.out
              obtain ⟨pb, hpb⟩ : ∃ pb, decide (r.pick = 7) = pb := ⟨_, rfl⟩
              rw [hpb]
              have HPB := Aside0.mk hpb
              clear hpb hb4 HB hc H1 HFA hn4
              cases pb with
              | true =>
                have hpk := of_decide_eq_true HPB.out
                rw [if_pos hpk] at H4
                have H5 := Aside0.mk H4
                clear H4 hpk
                go_wp2_with (fail)
                go_roundg g
                case measure => exact Nat.lt_succ_self _
                case rel => exact ⟨r.step, H5, HB5, ⟨HSTEP.out.1⟩, ⟨HSTEP.out.2.2.trans HS.out⟩, ⟨by have := HSTEP.out.2.1; have := HG.out; omega⟩, HT2⟩
              | false =>
                have hpk := of_decide_eq_false HPB.out
                have HFA5 := Aside0.mk (((HN4.out hpk).block a (Array.getElem?_eq_some_iff.1 HFA4.out).1).trans HFA4.out)
                rw [if_neg hpk] at H4
                have H5 := Aside0.mk H4
                have hJ2 : Aside0 (8 ≤ r.pick) := ⟨by omega⟩
                clear H4 hpk
                go_wp2_with (fail)
                go_roundg gi
                case measure => exact Nat.lt_succ_self _
                case rel => exact ⟨8, 8, rfl, rfl, hJ2.out, H5, HB5, HFA5, HGI1⟩
            · obtain rfl : Ji = 8 := hji
              have hc := cell_of_row _ a 8 _ _ _ HFA.out
              go_wp2_with (fail)
              refine (take8 H1.out HOK.out (by rw [HS.out]; exact HLT.out) hJ).mono ?_
              rintro _ w4 ⟨rfl, H4, hb4, hn4⟩
              have HB5 := Aside0.mk (HB.out.trans hb4)
              have HN4 := Aside0.mk hn4
              have HFA4 := Aside0.mk HFA.out
              obtain ⟨pb, hpb⟩ : ∃ pb, decide (r.pick = 8) = pb := ⟨_, rfl⟩
              rw [hpb]
              have HPB := Aside0.mk hpb
              clear hpb hb4 HB hc H1 HFA hn4
              cases pb with
              | true =>
                have hpk := of_decide_eq_true HPB.out
                rw [if_pos hpk] at H4
                have H5 := Aside0.mk H4
                clear H4 hpk
                go_wp2_with (fail)
                go_roundg g
                case measure => exact Nat.lt_succ_self _
                case rel => exact ⟨r.step, H5, HB5, ⟨HSTEP.out.1⟩, ⟨HSTEP.out.2.2.trans HS.out⟩, ⟨by have := HSTEP.out.2.1; have := HG.out; omega⟩, HT2⟩
              | false =>
                exact absurd HPB.out (by have := pick_le r; rw [decide_eq_true (show r.pick = 8 by omega)]; decide)
        · have b1 : decide (r.pos < (L.size : Int)) = false := decide_eq_false hlt
          have HF : Aside0 (res = r) := ⟨by
            rw [HT.out]
            cases gk with
            | zero => rfl
            | succ g => simp only [scanL]; rw [if_neg (by rw [HS.out]; exact hlt)]⟩
          clear HT hlt
          have hrb : wr.heap[w.heap.size]? = some (.cells #[.slice none 0 0, .int .u8 0, .int .i64 0, .bool false, .bool false, .bool false] 25 (0, 0)) :=
            (HB.out.block _ (by have := HSZ.out; omega)).trans (by rw [← HW1.out]; exact heap_alloc_new _ _)
          have e0 : wr.cell? ⟨w.heap.size, 0, none⟩ = some (.slice none 0 0) := cell_of_row wr _ _ _ _ _ hrb
          have e1 : wr.cell? ⟨w.heap.size, 1, none⟩ = some (.int .u8 0) := cell_of_row wr _ _ _ _ _ hrb
          have e2 : wr.cell? ⟨w.heap.size, 2, none⟩ = some (.int .i64 0) := cell_of_row wr _ _ _ _ _ hrb
          have e3 : wr.cell? ⟨w.heap.size, 3, none⟩ = some (.bool false) := cell_of_row wr _ _ _ _ _ hrb
          have e4 : wr.cell? ⟨w.heap.size, 4, none⟩ = some (.bool false) := cell_of_row wr _ _ _ _ _ hrb
          have e5 : wr.cell? ⟨w.heap.size, 5, none⟩ = some (.bool false) := cell_of_row wr _ _ _ _ _ hrb
          have ef : ∀ j, wr.frozen? ⟨w.heap.size, j, none⟩ = false := fun j => frozen_of_row wr _ j _ _ hrb
          have HRB := Aside0.mk hrb
          clear hrb
          go_wp2_with (fail)
          go_quiet (fail)
          go_wp2_with (fail)
          obtain ⟨hg, hR⟩ := scan_end (W := wr.drewN _) HRB.out (Kd.R_drewN (H1.out.row A c c2) _) (.slice A r.ev.length c) (.int .u8 r.mark) (.int .i64 r.depth) (.bool r.join) (.bool r.any) (.bool r.colon)
          refine bodyPost_ret (results_cell_row rfl _ _ w.heap.size 25 _ (0, 0) _ rfl hg Try.underlying25 rfl (by kernel_rfl)) rfl ?_
          rw [HF.out]
          refine ⟨⟨_, rfl, Kd.R_lower hR (by have := HSZ.out; omega)⟩, ?_⟩
          have hb : Below w.heap.size w W1 := by rw [← HW1.out]; exact (Below.refl _ w).alloc (Nat.le_refl _) _
          exact (((((((hb.trans (HB.out.mono (by have := HSZ.out; omega))).trans (drawn_below ⟨_, rfl⟩)).setCell (p := ⟨w.heap.size, 0, none⟩) (Nat.le_refl _) _).setCell (p := ⟨w.heap.size, 1, none⟩) (Nat.le_refl _) _).setCell (p := ⟨w.heap.size, 2, none⟩) (Nat.le_refl _) _).setCell (p := ⟨w.heap.size, 3, none⟩) (Nat.le_refl _) _).setCell (p := ⟨w.heap.size, 4, none⟩) (Nat.le_refl _) _).setCell (p := ⟨w.heap.size, 5, none⟩) (Nat.le_refl _) _

end Go.Proofs.Ytdknppomjcpihaa.PPy
