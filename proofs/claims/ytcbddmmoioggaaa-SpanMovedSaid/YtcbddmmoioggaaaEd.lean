/- The document's ends: all places where something changes, rising. -/
import Derived.Test.YtcbddmmoioggaaaHa
namespace Go.Proofs.Ytcbddmmoioggaaa.Sp
open Go.RowKit Go.Proofs.YtcbddmmoioggaaaW.PrintWords Go.Proofs.YtcbddmmoioggaaaW.PrintLast Go.Proofs.YtcbddmmoioggaaaW.PrintMore
attribute [local go_sem] max2_int min2_int max_two min_two max_three min_three max_four min_four
set_option linter.unusedVariables false
set_option linter.unusedSimpArgs false
structure EI (out0 need out : List Int) : Prop where
  s : out.Pairwise (· < ·)
  r : ∀ p ∈ out, 0 ≤ p ∧ p ≤ top
  a : ∀ e, e ∈ out0 ∨ e ∈ need → e ∈ out
theorem EI.skip {out0 need out : List Int} {x : Int} (h : EI out0 need out) (hx : x ∈ out) : EI out0 (need ++ [x]) out :=
  ⟨h.s, h.r, fun e he => by
    rcases he with he | he
    · exact h.a e (.inl he)
    · rcases List.mem_append.1 he with he | he
      · exact h.a e (.inr he)
      · simp at he
        rw [he]
        exact hx⟩
theorem EI.ins {out0 need out : List Int} {x : Int} {k : Nat} (h : EI out0 need out) (hx : 0 ≤ x ∧ x ≤ top) (hk : k ≤ out.length) (hlt : ∀ j y, j < k → out[j]? = some y → y < x) (hge : ∀ y, out[k]? = some y → x < y) : EI out0 (need ++ [x]) (out.take k ++ [x] ++ out.drop k) := by
  obtain ⟨h1, h2⟩ := ins_ok h.s hk hlt hge
  refine ⟨h1, fun p hp => ?_, fun e he => ?_⟩
  · rcases (h2 p).1 hp with rfl | hp
    · exact hx
    · exact h.r p hp
  · rw [h2]
    rcases he with he | he
    · exact .inr (h.a e (.inl he))
    · rcases List.mem_append.1 he with he | he
      · exact .inr (h.a e (.inr he))
      · simp at he
        exact .inl he
theorem formI {w : World} {ok : Nat → Prop} {v : Value} {xs : List Int} (h : kI.R 3 w 0 ok v xs) (h1 : 1 ≤ xs.length) : ∃ g cap, v = .slice (some ⟨g, 0, none⟩) xs.length cap ∧ xs.length ≤ cap := by
  obtain ⟨_, inner, hown, _⟩ := h
  rcases hown.2 with ⟨_, h2⟩ | ⟨g, cap, cur, h2, _, _, h3, _⟩
  · omega
  · exact ⟨g, cap, h2, h3⟩
theorem atI {w : World} {ok : Nat → Prop} {g NL cap : Nat} {xs : List Int} (h : kI.R 3 w 0 ok (.slice (some ⟨g, 0, none⟩) NL cap) xs) {i : Nat} {y : Int} (hy : xs[i]? = some y) : w.cell? ⟨g, i, none⟩ = some (.int .i64 y) := by
  have hc := (Kd.R_reads' h).2.2
  have hil := (List.getElem?_eq_some_iff.1 hy).1
  obtain ⟨ad, hA, hr⟩ := hc.2.2 (by omega)
  injection hA with hA
  subst hA
  obtain ⟨c, _, hk, hcell⟩ := hr i y hy
  have := hcell 0 (.int .i64 y) (by rw [show c = [.int .i64 y] from hk]; rfl)
  rw [add_plain] at this
  simpa [kI, flat] using this
theorem kd_mono {α : Type} {n : Nat} {enc : α → List Value} {hl : ∀ x, (enc x).length = n} {h1 : ∀ x, ∀ u ∈ enc x, u.oneCell' = true} {e : Nat} {w : World} {ok ok' : Nat → Prop} {v : Value} {xs : List α} (h : (flat n enc hl h1).R e w 0 ok v xs) (hk : ∀ k, v.ownBlock = some k → ok' k) : (flat n enc hl h1).R e w 0 ok' v xs := by
  obtain ⟨_, inner, hown, hr⟩ := h
  exact ⟨hk, inner, hown, hr⟩
theorem kd_turn {α : Type} {n : Nat} {enc : α → List Value} {hl : ∀ x, (enc x).length = n} {h1 : ∀ x, ∀ u ∈ enc x, u.oneCell' = true} {e : Nat} {w w1 : World} {ok : Nat → Prop} {v : Value} {xs : List α} (h : (flat n enc hl h1).R e w 0 ok v xs) (hm : ∀ k, v.ownBlock = some k → k < w.heap.size → w1.heap[k]? = w.heap[k]?) : (flat n enc hl h1).R e w1 0 ok v xs :=
  kd_mono (Kd.R_step (kd_mono h (ok' := fun k => v.ownBlock = some k) (fun k hk => hk)) (fun k hk hlt => hm k hk hlt)) h.1
theorem cells_none {xs : List Int} (h : xs.length = 0) : xs = [] := List.length_eq_zero_iff.1 h
/-- What the document's ends tells. -/
def EndsP (w : World) (base : Nat) (out0 : List Int) (l : List Rg) (e : Ending) (w' : World) : Prop :=
  ∃ v out, e = .returned v ∧ kI.R 3 w' 0 (fun j => base ≤ j) v out ∧ EI out0 (endsL l) out ∧ out.length ≤ out0.length + 2 * l.length ∧ Below base w w'
theorem ends_snoc {l : List Rg} {k : Nat} {x : Rg} (h : l[k]? = some x) : endsL (l.take (k + 1)) = endsL (l.take k) ++ [clip x.f] ++ [clip x.t] := by
  rw [take_snoc h]
  simp [endsL]
set_option maxRecDepth 100000 in
set_option maxHeartbeats 16000000 in
theorem ends_c (A : Option Addr) (n c : Nat) (l : List Rg) (v : Value) (out0 : List Int) (w : World) (base : Nat) (hR : ∀ w', Below base w w' → ReadsRow RRg 2 w' A n l) (hO : kI.R 3 w 0 (fun j => base ≤ j) v out0) (hb : base ≤ w.heap.size) (hE : EI out0 [] out0) (hlen : out0.length + 2 * n ≤ 1000000) :
    Calls Try.prog 33 #[.slice A n c, v] w fun e w' => EndsP w base out0 l e w' := by
  have HR := Aside0.mk hR
  have hln := (hR w (Below.refl _ _)).1
  have HLN := Aside0.mk hln
  have HO := Aside0.mk hO
  have HE := Aside0.mk hE
  have HB0 := Aside0.mk hb
  obtain ⟨B0, c0, hv, _, _⟩ := Kd.R_reads hO
  obtain ⟨q0, hq0⟩ : ∃ q, out0.length = q := ⟨_, rfl⟩
  have HQ0 := Aside0.mk hq0
  rw [hq0] at hv hlen
  subst hv
  clear hR hln hO hE hb hq0
  obtain ⟨i3, hi3, hz3⟩ := Option.map_eq_some_iff.1 info3s
  go_enter Try.func33, Try.ntmps33
  go_upto_block 0 with (fail)
  go_wp2_with (fail)
  go_loopg [5, 1] n (fun gk v5 v1 wr => ∃ (i q d : Nat) (B : Option Addr) (out : List Int), v5 = .int .i64 (i : Int) ∧ v1 = .slice B q d ∧ Aside0 (i + gk = n) ∧ Aside0 (kI.R 3 wr 0 (fun j => base ≤ j) (.slice B q d) out) ∧ Aside0 (out.length = q) ∧ Aside0 (q ≤ q0 + 2 * i) ∧ Aside0 (EI out0 (endsL (l.take i)) out) ∧ Aside0 (Below base w wr))
  case atStart => exact ⟨0, q0, c0, B0, out0, rfl, rfl, ⟨by omega⟩, HO, HQ0, ⟨by omega⟩, HE, ⟨Below.refl _ _⟩⟩
  case round =>
    clear HO HE
    obtain ⟨i, q, d, B, out, rfl, rfl, HI, HO, HQ, HQL, HE, HB⟩ := hrel
    by_cases hin : i < n
    · obtain ⟨gn, rfl⟩ : ∃ gn, gk = gn + 1 := ⟨gk - 1, by have := HI.out; omega⟩
      obtain ⟨x, hx⟩ : ∃ x, l[i]? = some x := ⟨_, List.getElem?_eq_getElem (by rw [HLN.out]; exact hin)⟩
      obtain ⟨ad, hA, _⟩ := (HR.out w (Below.refl _ _)).2.2 (by omega)
      subst hA
      have HX := Aside0.mk hx
      have p0 : (0 : Int) ≤ (i : Int) := by omega
      have p1 : (i : Int) < (n : Int) := by omega
      have hwi : IntKind.i64.wrap ((i : Int) + 1) = (i : Int) + 1 := IntWalk.i64_in _ (by omega)
      obtain ⟨z1, hz1⟩ : ∃ q, clip x.f = q := ⟨_, rfl⟩
      obtain ⟨z2, hz2⟩ : ∃ q, clip x.t = q := ⟨_, rfl⟩
      have HZ1 := Aside0.mk hz1
      have HZ2 := Aside0.mk hz2
      have hzz : (0 ≤ z1 ∧ z1 ≤ top) ∧ 0 ≤ z2 ∧ z2 ≤ top := by rw [← hz1, ← hz2]; exact ⟨clip_in _, clip_in _⟩
      have HZZ := Aside0.mk hzz
      have HC1 := Aside0.mk (fun W => rclip_c x.f W)
      have HC2 := Aside0.mk (fun W => rclip_c x.t W)
      rw [hz1] at HC1
      rw [hz2] at HC2
      clear hx hz1 hz2 hzz
      go_upto_block 2 with (fail)
      go_wp2_with (fail)
      go_loopg [6, 1] 2 (fun gs v6 v1 ws => ∃ (s q d : Nat) (B : Option Addr) (out : List Int), v6 = .int .i64 (s : Int) ∧ v1 = .slice B q d ∧ Aside0 (s + gs = 2) ∧ Aside0 (kI.R 3 ws 0 (fun j => base ≤ j) (.slice B q d) out) ∧ Aside0 (out.length = q) ∧ Aside0 (q ≤ q0 + 2 * i + s) ∧ Aside0 (EI out0 (endsL (l.take i) ++ [z1, z2].take s) out) ∧ Aside0 (Below base w ws))
      case atStart => exact ⟨0, q, d, B, out, rfl, rfl, ⟨rfl⟩, HO, HQ, ⟨by have := HQL.out; omega⟩, ⟨by simpa using HE.out⟩, HB⟩
      case round =>
        clear HO HQ HQL HE HB
        obtain ⟨s, q, d, B, out, rfl, rfl, HS, HO, HQ, HQL, HE, HB⟩ := hrel
        have HBS : Aside0 (base ≤ wr.heap.size) := ⟨Nat.le_trans HB0.out HB.out.size⟩
        obtain ⟨e0, e1⟩ := rg_at (HR.out _ HB.out) HX.out
        by_cases hs0 : s = 0
        · subst hs0
          obtain ⟨gs, rfl⟩ : ∃ gs', gk = gs' + 1 := ⟨gk - 1, by have := HS.out; omega⟩
          have hzr : 0 ≤ z1 ∧ z1 ≤ top := HZZ.out.1
          have hq8 : q ≤ 1000000 := by have := HQL.out; omega
          go_upto_block 4 with (first
            | (refine (HC1.out _).mono ?_; rintro _ w9 ⟨rfl, h9⟩; rw [h9]; clear h9 w9)
            | (refine (HC2.out _).mono ?_; rintro _ w9 ⟨rfl, h9⟩; rw [h9]; clear h9 w9))
          go_wp2_with (fail)
          go_loopg [8] q (fun gj v8 wj => ∃ k : Nat, v8 = .int .i64 (k : Int) ∧ Aside0 (k + gj = q) ∧ Aside0 (wj = wr) ∧ Aside0 (∀ j y, j < k → out[j]? = some y → y < z1))
          case atStart => exact ⟨0, rfl, ⟨by omega⟩, ⟨rfl⟩, ⟨fun j y hj => absurd hj (Nat.not_lt_zero _)⟩⟩
          case round =>
            obtain ⟨k, rfl, HK, HW, HLT⟩ := hrel
            obtain rfl := HW.out
            have hwk : IntKind.i64.wrap ((k : Int) + 1) = (k : Int) + 1 := IntWalk.i64_in _ (by have := HK.out; omega)
            by_cases hkq : k < q
            · obtain ⟨gj, rfl⟩ : ∃ gj, gk = gj + 1 := ⟨gk - 1, by have := HK.out; omega⟩
              obtain ⟨y, hy⟩ : ∃ y, out[k]? = some y := ⟨_, List.getElem?_eq_getElem (by rw [HQ.out]; exact hkq)⟩
              obtain ⟨g, cap, hv, _⟩ := formI HO.out (by rw [HQ.out]; omega)
              injection hv with hv1 hv2 hv3
              subst hv1
              have cy := atI HO.out hy
              have k0 : (0 : Int) ≤ (k : Int) := by omega
              have k1 : (k : Int) < (q : Int) := by omega
              have HY := Aside0.mk hy
              clear hv2 hv3 hy
              by_cases hyz : y < z1
              · go_wp2_with (fail)
                go_roundg gj
                case measure => exact Nat.lt_succ_self _
                case rel =>
                  refine ⟨k + 1, by simp, ⟨by have := HK.out; omega⟩, ⟨rfl⟩, ⟨fun j u hj hu => ?_⟩⟩
                  by_cases hjk : j < k
                  · exact HLT.out j u hjk hu
                  · have : j = k := by omega
                    subst this
                    rw [HY.out] at hu
                    injection hu with hu
                    rw [← hu]
                    exact hyz
              · by_cases hye : y = z1
                · have bq : (y == z1) = true := beq_iff_eq.mpr hye
                  have HSK := Aside0.mk (HE.out.skip (x := z1) (by rw [← hye]; exact List.mem_of_getElem? HY.out))
                  clear hye
                  go_wp2_with (fail)
                  go_roundg gs
                  case measure => exact Nat.lt_succ_self _
                  case rel =>
                    refine ⟨1, q, d, _, out, rfl, rfl, ⟨by have := HS.out; omega⟩, HO, HQ, ⟨by have := HQL.out; omega⟩, ⟨?_⟩, HB⟩
                    have h := HSK.out
                    simpa using h
                · have bq : (y == z1) = false := beq_eq_false_iff_ne.mpr hye
                  have hge : ∀ u, out[k]? = some u → z1 < u := fun u hu => by
                    rw [HY.out] at hu
                    injection hu with hu
                    omega
                  have hqd : q ≤ d := (Kd.R_reads' HO.out).2.1
                  have hkle : k ≤ q := by omega
                  have hRD := (Kd.R_reads' HO.out).2.2
                  clear hye
                  have hcf := cut_from (P := Try.prog) 45 3 .i64 Try.underlying45 hi3 1 hz3 (some (⟨g, 0, none⟩ : Addr)) q d (k : Int) (by omega) (by omega)
                  have hct := cut_to (P := Try.prog) 45 3 .i64 Try.underlying45 hi3 (some (⟨g, 0, none⟩ : Addr)) q d (k : Int) (by omega) (by omega) hqd
                  rw [Int.toNat_natCast] at hcf hct
                  have hdr := Kd.C_drop (k := kI) (m := k) (c := d) (xs := out) (A := (some (⟨g, 0, none⟩ : Addr))) (w := wr) hRD (by rw [HQ.out]; omega) (by rw [HQ.out]; exact hqd)
                  rw [show k * kI.sz = k * 1 from rfl] at hdr
                  obtain ⟨B', hB'⟩ : ∃ X, (if d = k then (some (⟨g, 0, none⟩ : Addr)) else Option.map (fun a => a.add (k * 1)) (some (⟨g, 0, none⟩ : Addr))) = X := ⟨_, rfl⟩
                  have hln2 : (out.drop k).length = q - k := by rw [List.length_drop, HQ.out]
                  rw [hB', hln2] at hdr
                  rw [hB'] at hcf
                  have HDR := Aside0.mk hdr
                  have HLN2 := Aside0.mk hln2
                  have HTK := Aside0.mk (Kd.R_take (m := k) HO.out (by rw [HQ.out]; omega))
                  have hltk : (out.take k).length = k := by rw [List.length_take, HQ.out]; omega
                  have HLTK := Aside0.mk hltk
                  have HINS := Aside0.mk (HE.out.ins (x := z1) (k := k) hzr (by rw [HQ.out]; omega) HLT.out hge)
                  have HBW : Aside0 (∀ j, (Value.slice (some (⟨g, 0, none⟩ : Addr)) q d).ownBlock = some j → j < wr.heap.size) := ⟨fun j hj => Kd.R_lt HO.out j hj⟩
                  have HOB : Aside0 ((Value.slice (some (⟨g, 0, none⟩ : Addr)) k d).ownBlock = (Value.slice (some (⟨g, 0, none⟩ : Addr)) q d).ownBlock) := ⟨by first | rfl | (cases B <;> rfl)⟩
                  clear hdr hln2 hB' hRD hge hltk
                  go_wp2_with (first
                    | (at_builtin; refine Kd.R_append_rows kI (w0 := wr) 0 rfl (.const (.slice none 0 0)) (.tmp 62) 45 3 (.int .i64 0) 8 rfl Try.underlying45 info3a rfl (by decide) (by decide) (.slice none 0 0) [] (out.drop k) B' (q - k) (d - k) (fun j => wr.heap.size ≤ j) (fun _ => False) rfl rfl (Kd.R_nil _ _ _ _ _) HDR.out (fun _ _ h => h) (fun _ h => h.elim) (fun _ h => h) (Below.refl _ _) (Nat.zero_le _) (by simp; omega) ?_; intro v2 w2 hR2 _ hg2 _; rw [List.nil_append] at hR2; obtain ⟨A2, c2, hv2, hc2, hC2⟩ := Kd.R_reads hR2; rw [HLN2.out] at hv2 hC2; subst hv2; have hb2 : Below wr.heap.size wr w2 := ⟨hg2.os, hg2.tape, hg2.output, hg2.size, fun j hj => hg2.block j hj (by simp [Value.ownBlock])⟩; have HB2 := Aside0.mk hb2; have HR2 := Aside0.mk hR2; have HTK2 := Aside0.mk (Kd.R_below HTK.out hb2); clear hR2 hg2 hb2 hC2 hc2)
                    | (at_builtin; refine Kd.R_append kI (w0 := w2) 0 rfl (.tmp 66) (.tmp 68) 45 3 (.int .i64 0) 8 rfl Try.underlying45 info3a rfl (by decide) (by decide) (.slice (some (⟨g, 0, none⟩ : Addr)) k d) (out.take k) z1 [.int .i64 z1] (fun j => base ≤ j) (fun _ => False) rfl rfl rfl (fun _ h => h.elim) (fun j hj => Nat.le_trans (Nat.le_trans HBS.out HB2.out.size) hj) HTK2.out (Below.refl _ _) (Nat.zero_le _) (by rw [HLTK.out]; omega) ?_; intro v3 w3 hR3 _ hg3 hat3; obtain ⟨A3, c3, hv3, hc3, _⟩ := Kd.R_reads hR3; rw [show (out.take k ++ [z1]).length = k + 1 from (by rw [List.length_append, HLTK.out]; rfl)] at hv3; subst hv3; have HR3 := Aside0.mk hR3; have HG3 := Aside0.mk hg3; have hr23 := kd_turn (w1 := w3) HR2.out (fun j hj hlt => hg3.block j hlt (fun e => by have h1 := HR2.out.1 j hj; rw [HOB.out] at e; have h2 := HBW.out j e.symm; omega)); have HR23 := Aside0.mk hr23; clear hR3 hg3 hat3 hr23 hc3)
                    | (at_builtin; refine Kd.R_append_rows kI (w0 := w3) 0 rfl (.tmp 69) (.tmp 70) 45 3 (.int .i64 0) 8 rfl Try.underlying45 info3a rfl (by decide) (by decide) (.slice A3 (k + 1) c3) (out.take k ++ [z1]) (out.drop k) A2 (q - k) c2 (fun j => base ≤ j) (fun _ => False) rfl rfl HR3.out (by have h := (Kd.R_reads' HR23.out).2.2; rw [HLN2.out] at h; exact h) (fun _ _ h => h) (fun _ h => h.elim) (fun j hj => Nat.le_trans (Nat.le_trans HBS.out (Nat.le_trans HB2.out.size HG3.out.size)) hj) (Below.refl _ _) (Nat.zero_le _) (by rw [List.length_append, HLTK.out]; simp; omega) ?_; intro v4 w4 hR4 _ hg4 hat4; obtain ⟨A4, c4, hv4, hc4, _⟩ := Kd.R_reads hR4; rw [show (out.take k ++ [z1] ++ out.drop k).length = q + 1 from (by rw [List.length_append, List.length_append, HLTK.out, HLN2.out]; simp; omega)] at hv4; subst hv4; have HR4 := Aside0.mk hR4; have HG4 := Aside0.mk hg4; clear hR4 hg4 hat4 hc4))
                  have HB4 : Aside0 (Below base w w4) := ⟨((HB.out.trans (HB2.out.mono HBS.out)).grown HG3.out (Nat.le_trans HBS.out HB2.out.size) (fun j e => HTK2.out.1 j e)).grown HG4.out (Nat.le_trans HBS.out (Nat.le_trans HB2.out.size HG3.out.size)) (fun j e => HR3.out.1 j e)⟩
                  go_roundg gs
                  case measure => exact Nat.lt_succ_self _
                  case rel =>
                    refine ⟨1, q + 1, c4, A4, _, rfl, rfl, ⟨by have := HS.out; omega⟩, HR4, ⟨?_⟩, ⟨by have := HQL.out; omega⟩, ⟨?_⟩, HB4⟩
                    · rw [List.length_append, List.length_append, HLTK.out, HLN2.out]
                      simp
                      omega
                    · have h := HINS.out
                      simpa using h

            · have hk0 : ¬ ((k : Int) < (q : Int)) := by omega
              have hkq2 : k = q := by have := HK.out; omega
              have hge : ∀ u, out[k]? = some u → z1 < u := fun u hu => by
                have := (List.getElem?_eq_some_iff.1 hu).1
                rw [HQ.out] at this
                omega
              have hqd : q ≤ d := (Kd.R_reads' HO.out).2.1
              have hkle : k ≤ q := by omega
              have hRD := (Kd.R_reads' HO.out).2.2
              clear hkq2
              have hcf := cut_from (P := Try.prog) 45 3 .i64 Try.underlying45 hi3 1 hz3 B q d (k : Int) (by omega) (by omega)
              have hct := cut_to (P := Try.prog) 45 3 .i64 Try.underlying45 hi3 B q d (k : Int) (by omega) (by omega) hqd
              rw [Int.toNat_natCast] at hcf hct
              have hdr := Kd.C_drop (k := kI) (m := k) (c := d) (xs := out) (A := B) (w := wr) hRD (by rw [HQ.out]; omega) (by rw [HQ.out]; exact hqd)
              rw [show k * kI.sz = k * 1 from rfl] at hdr
              obtain ⟨B', hB'⟩ : ∃ X, (if d = k then B else Option.map (fun a => a.add (k * 1)) B) = X := ⟨_, rfl⟩
              have hln2 : (out.drop k).length = q - k := by rw [List.length_drop, HQ.out]
              rw [hB', hln2] at hdr
              rw [hB'] at hcf
              have HDR := Aside0.mk hdr
              have HLN2 := Aside0.mk hln2
              have HTK := Aside0.mk (Kd.R_take (m := k) HO.out (by rw [HQ.out]; omega))
              have hltk : (out.take k).length = k := by rw [List.length_take, HQ.out]; omega
              have HLTK := Aside0.mk hltk
              have HINS := Aside0.mk (HE.out.ins (x := z1) (k := k) hzr (by rw [HQ.out]; omega) HLT.out hge)
              have HBW : Aside0 (∀ j, (Value.slice B q d).ownBlock = some j → j < wr.heap.size) := ⟨fun j hj => Kd.R_lt HO.out j hj⟩
              have HOB : Aside0 ((Value.slice B k d).ownBlock = (Value.slice B q d).ownBlock) := ⟨by first | rfl | (cases B <;> rfl)⟩
              clear hdr hln2 hB' hRD hge hltk
              go_wp2_with (first
                | (at_builtin; refine Kd.R_append_rows kI (w0 := wr) 0 rfl (.const (.slice none 0 0)) (.tmp 62) 45 3 (.int .i64 0) 8 rfl Try.underlying45 info3a rfl (by decide) (by decide) (.slice none 0 0) [] (out.drop k) B' (q - k) (d - k) (fun j => wr.heap.size ≤ j) (fun _ => False) rfl rfl (Kd.R_nil _ _ _ _ _) HDR.out (fun _ _ h => h) (fun _ h => h.elim) (fun _ h => h) (Below.refl _ _) (Nat.zero_le _) (by simp; omega) ?_; intro v2 w2 hR2 _ hg2 _; rw [List.nil_append] at hR2; obtain ⟨A2, c2, hv2, hc2, hC2⟩ := Kd.R_reads hR2; rw [HLN2.out] at hv2 hC2; subst hv2; have hb2 : Below wr.heap.size wr w2 := ⟨hg2.os, hg2.tape, hg2.output, hg2.size, fun j hj => hg2.block j hj (by simp [Value.ownBlock])⟩; have HB2 := Aside0.mk hb2; have HR2 := Aside0.mk hR2; have HTK2 := Aside0.mk (Kd.R_below HTK.out hb2); clear hR2 hg2 hb2 hC2 hc2)
                | (at_builtin; refine Kd.R_append kI (w0 := w2) 0 rfl (.tmp 66) (.tmp 68) 45 3 (.int .i64 0) 8 rfl Try.underlying45 info3a rfl (by decide) (by decide) (.slice B k d) (out.take k) z1 [.int .i64 z1] (fun j => base ≤ j) (fun _ => False) rfl rfl rfl (fun _ h => h.elim) (fun j hj => Nat.le_trans (Nat.le_trans HBS.out HB2.out.size) hj) HTK2.out (Below.refl _ _) (Nat.zero_le _) (by rw [HLTK.out]; omega) ?_; intro v3 w3 hR3 _ hg3 hat3; obtain ⟨A3, c3, hv3, hc3, _⟩ := Kd.R_reads hR3; rw [show (out.take k ++ [z1]).length = k + 1 from (by rw [List.length_append, HLTK.out]; rfl)] at hv3; subst hv3; have HR3 := Aside0.mk hR3; have HG3 := Aside0.mk hg3; have hr23 := kd_turn (w1 := w3) HR2.out (fun j hj hlt => hg3.block j hlt (fun e => by have h1 := HR2.out.1 j hj; rw [HOB.out] at e; have h2 := HBW.out j e.symm; omega)); have HR23 := Aside0.mk hr23; clear hR3 hg3 hat3 hr23 hc3)
                | (at_builtin; refine Kd.R_append_rows kI (w0 := w3) 0 rfl (.tmp 69) (.tmp 70) 45 3 (.int .i64 0) 8 rfl Try.underlying45 info3a rfl (by decide) (by decide) (.slice A3 (k + 1) c3) (out.take k ++ [z1]) (out.drop k) A2 (q - k) c2 (fun j => base ≤ j) (fun _ => False) rfl rfl HR3.out (by have h := (Kd.R_reads' HR23.out).2.2; rw [HLN2.out] at h; exact h) (fun _ _ h => h) (fun _ h => h.elim) (fun j hj => Nat.le_trans (Nat.le_trans HBS.out (Nat.le_trans HB2.out.size HG3.out.size)) hj) (Below.refl _ _) (Nat.zero_le _) (by rw [List.length_append, HLTK.out]; simp; omega) ?_; intro v4 w4 hR4 _ hg4 hat4; obtain ⟨A4, c4, hv4, hc4, _⟩ := Kd.R_reads hR4; rw [show (out.take k ++ [z1] ++ out.drop k).length = q + 1 from (by rw [List.length_append, List.length_append, HLTK.out, HLN2.out]; simp; omega)] at hv4; subst hv4; have HR4 := Aside0.mk hR4; have HG4 := Aside0.mk hg4; clear hR4 hg4 hat4 hc4))
              have HB4 : Aside0 (Below base w w4) := ⟨((HB.out.trans (HB2.out.mono HBS.out)).grown HG3.out (Nat.le_trans HBS.out HB2.out.size) (fun j e => HTK2.out.1 j e)).grown HG4.out (Nat.le_trans HBS.out (Nat.le_trans HB2.out.size HG3.out.size)) (fun j e => HR3.out.1 j e)⟩
              go_roundg gs
              case measure => exact Nat.lt_succ_self _
              case rel =>
                refine ⟨1, q + 1, c4, A4, _, rfl, rfl, ⟨by have := HS.out; omega⟩, HR4, ⟨?_⟩, ⟨by have := HQL.out; omega⟩, ⟨?_⟩, HB4⟩
                · rw [List.length_append, List.length_append, HLTK.out, HLN2.out]
                  simp
                  omega
                · have h := HINS.out
                  simpa using h
        by_cases hs1 : s = 1
        · subst hs1
          obtain ⟨gs, rfl⟩ : ∃ gs', gk = gs' + 1 := ⟨gk - 1, by have := HS.out; omega⟩
          have hzr : 0 ≤ z2 ∧ z2 ≤ top := HZZ.out.2
          have hq8 : q ≤ 1000000 := by have := HQL.out; omega
          go_upto_block 4 with (first
            | (refine (HC1.out _).mono ?_; rintro _ w9 ⟨rfl, h9⟩; rw [h9]; clear h9 w9)
            | (refine (HC2.out _).mono ?_; rintro _ w9 ⟨rfl, h9⟩; rw [h9]; clear h9 w9))
          go_wp2_with (fail)
          go_loopg [8] q (fun gj v8 wj => ∃ k : Nat, v8 = .int .i64 (k : Int) ∧ Aside0 (k + gj = q) ∧ Aside0 (wj = wr) ∧ Aside0 (∀ j y, j < k → out[j]? = some y → y < z2))
          case atStart => exact ⟨0, rfl, ⟨by omega⟩, ⟨rfl⟩, ⟨fun j y hj => absurd hj (Nat.not_lt_zero _)⟩⟩
          case round =>
            obtain ⟨k, rfl, HK, HW, HLT⟩ := hrel
            obtain rfl := HW.out
            have hwk : IntKind.i64.wrap ((k : Int) + 1) = (k : Int) + 1 := IntWalk.i64_in _ (by have := HK.out; omega)
            by_cases hkq : k < q
            · obtain ⟨gj, rfl⟩ : ∃ gj, gk = gj + 1 := ⟨gk - 1, by have := HK.out; omega⟩
              obtain ⟨y, hy⟩ : ∃ y, out[k]? = some y := ⟨_, List.getElem?_eq_getElem (by rw [HQ.out]; exact hkq)⟩
              obtain ⟨g, cap, hv, _⟩ := formI HO.out (by rw [HQ.out]; omega)
              injection hv with hv1 hv2 hv3
              subst hv1
              have cy := atI HO.out hy
              have k0 : (0 : Int) ≤ (k : Int) := by omega
              have k1 : (k : Int) < (q : Int) := by omega
              have HY := Aside0.mk hy
              clear hv2 hv3 hy
              by_cases hyz : y < z2
              · go_wp2_with (fail)
                go_roundg gj
                case measure => exact Nat.lt_succ_self _
                case rel =>
                  refine ⟨k + 1, by simp, ⟨by have := HK.out; omega⟩, ⟨rfl⟩, ⟨fun j u hj hu => ?_⟩⟩
                  by_cases hjk : j < k
                  · exact HLT.out j u hjk hu
                  · have : j = k := by omega
                    subst this
                    rw [HY.out] at hu
                    injection hu with hu
                    rw [← hu]
                    exact hyz
              · by_cases hye : y = z2
                · have bq : (y == z2) = true := beq_iff_eq.mpr hye
                  have HSK := Aside0.mk (HE.out.skip (x := z2) (by rw [← hye]; exact List.mem_of_getElem? HY.out))
                  clear hye
                  go_wp2_with (fail)
                  go_roundg gs
                  case measure => exact Nat.lt_succ_self _
                  case rel =>
                    refine ⟨2, q, d, _, out, rfl, rfl, ⟨by have := HS.out; omega⟩, HO, HQ, ⟨by have := HQL.out; omega⟩, ⟨?_⟩, HB⟩
                    have h := HSK.out
                    simpa using h
                · have bq : (y == z2) = false := beq_eq_false_iff_ne.mpr hye
                  have hge : ∀ u, out[k]? = some u → z2 < u := fun u hu => by
                    rw [HY.out] at hu
                    injection hu with hu
                    omega
                  have hqd : q ≤ d := (Kd.R_reads' HO.out).2.1
                  have hkle : k ≤ q := by omega
                  have hRD := (Kd.R_reads' HO.out).2.2
                  clear hye
                  have hcf := cut_from (P := Try.prog) 45 3 .i64 Try.underlying45 hi3 1 hz3 (some (⟨g, 0, none⟩ : Addr)) q d (k : Int) (by omega) (by omega)
                  have hct := cut_to (P := Try.prog) 45 3 .i64 Try.underlying45 hi3 (some (⟨g, 0, none⟩ : Addr)) q d (k : Int) (by omega) (by omega) hqd
                  rw [Int.toNat_natCast] at hcf hct
                  have hdr := Kd.C_drop (k := kI) (m := k) (c := d) (xs := out) (A := (some (⟨g, 0, none⟩ : Addr))) (w := wr) hRD (by rw [HQ.out]; omega) (by rw [HQ.out]; exact hqd)
                  rw [show k * kI.sz = k * 1 from rfl] at hdr
                  obtain ⟨B', hB'⟩ : ∃ X, (if d = k then (some (⟨g, 0, none⟩ : Addr)) else Option.map (fun a => a.add (k * 1)) (some (⟨g, 0, none⟩ : Addr))) = X := ⟨_, rfl⟩
                  have hln2 : (out.drop k).length = q - k := by rw [List.length_drop, HQ.out]
                  rw [hB', hln2] at hdr
                  rw [hB'] at hcf
                  have HDR := Aside0.mk hdr
                  have HLN2 := Aside0.mk hln2
                  have HTK := Aside0.mk (Kd.R_take (m := k) HO.out (by rw [HQ.out]; omega))
                  have hltk : (out.take k).length = k := by rw [List.length_take, HQ.out]; omega
                  have HLTK := Aside0.mk hltk
                  have HINS := Aside0.mk (HE.out.ins (x := z2) (k := k) hzr (by rw [HQ.out]; omega) HLT.out hge)
                  have HBW : Aside0 (∀ j, (Value.slice (some (⟨g, 0, none⟩ : Addr)) q d).ownBlock = some j → j < wr.heap.size) := ⟨fun j hj => Kd.R_lt HO.out j hj⟩
                  have HOB : Aside0 ((Value.slice (some (⟨g, 0, none⟩ : Addr)) k d).ownBlock = (Value.slice (some (⟨g, 0, none⟩ : Addr)) q d).ownBlock) := ⟨by first | rfl | (cases B <;> rfl)⟩
                  clear hdr hln2 hB' hRD hge hltk
                  go_wp2_with (first
                    | (at_builtin; refine Kd.R_append_rows kI (w0 := wr) 0 rfl (.const (.slice none 0 0)) (.tmp 62) 45 3 (.int .i64 0) 8 rfl Try.underlying45 info3a rfl (by decide) (by decide) (.slice none 0 0) [] (out.drop k) B' (q - k) (d - k) (fun j => wr.heap.size ≤ j) (fun _ => False) rfl rfl (Kd.R_nil _ _ _ _ _) HDR.out (fun _ _ h => h) (fun _ h => h.elim) (fun _ h => h) (Below.refl _ _) (Nat.zero_le _) (by simp; omega) ?_; intro v2 w2 hR2 _ hg2 _; rw [List.nil_append] at hR2; obtain ⟨A2, c2, hv2, hc2, hC2⟩ := Kd.R_reads hR2; rw [HLN2.out] at hv2 hC2; subst hv2; have hb2 : Below wr.heap.size wr w2 := ⟨hg2.os, hg2.tape, hg2.output, hg2.size, fun j hj => hg2.block j hj (by simp [Value.ownBlock])⟩; have HB2 := Aside0.mk hb2; have HR2 := Aside0.mk hR2; have HTK2 := Aside0.mk (Kd.R_below HTK.out hb2); clear hR2 hg2 hb2 hC2 hc2)
                    | (at_builtin; refine Kd.R_append kI (w0 := w2) 0 rfl (.tmp 66) (.tmp 68) 45 3 (.int .i64 0) 8 rfl Try.underlying45 info3a rfl (by decide) (by decide) (.slice (some (⟨g, 0, none⟩ : Addr)) k d) (out.take k) z2 [.int .i64 z2] (fun j => base ≤ j) (fun _ => False) rfl rfl rfl (fun _ h => h.elim) (fun j hj => Nat.le_trans (Nat.le_trans HBS.out HB2.out.size) hj) HTK2.out (Below.refl _ _) (Nat.zero_le _) (by rw [HLTK.out]; omega) ?_; intro v3 w3 hR3 _ hg3 hat3; obtain ⟨A3, c3, hv3, hc3, _⟩ := Kd.R_reads hR3; rw [show (out.take k ++ [z2]).length = k + 1 from (by rw [List.length_append, HLTK.out]; rfl)] at hv3; subst hv3; have HR3 := Aside0.mk hR3; have HG3 := Aside0.mk hg3; have hr23 := kd_turn (w1 := w3) HR2.out (fun j hj hlt => hg3.block j hlt (fun e => by have h1 := HR2.out.1 j hj; rw [HOB.out] at e; have h2 := HBW.out j e.symm; omega)); have HR23 := Aside0.mk hr23; clear hR3 hg3 hat3 hr23 hc3)
                    | (at_builtin; refine Kd.R_append_rows kI (w0 := w3) 0 rfl (.tmp 69) (.tmp 70) 45 3 (.int .i64 0) 8 rfl Try.underlying45 info3a rfl (by decide) (by decide) (.slice A3 (k + 1) c3) (out.take k ++ [z2]) (out.drop k) A2 (q - k) c2 (fun j => base ≤ j) (fun _ => False) rfl rfl HR3.out (by have h := (Kd.R_reads' HR23.out).2.2; rw [HLN2.out] at h; exact h) (fun _ _ h => h) (fun _ h => h.elim) (fun j hj => Nat.le_trans (Nat.le_trans HBS.out (Nat.le_trans HB2.out.size HG3.out.size)) hj) (Below.refl _ _) (Nat.zero_le _) (by rw [List.length_append, HLTK.out]; simp; omega) ?_; intro v4 w4 hR4 _ hg4 hat4; obtain ⟨A4, c4, hv4, hc4, _⟩ := Kd.R_reads hR4; rw [show (out.take k ++ [z2] ++ out.drop k).length = q + 1 from (by rw [List.length_append, List.length_append, HLTK.out, HLN2.out]; simp; omega)] at hv4; subst hv4; have HR4 := Aside0.mk hR4; have HG4 := Aside0.mk hg4; clear hR4 hg4 hat4 hc4))
                  have HB4 : Aside0 (Below base w w4) := ⟨((HB.out.trans (HB2.out.mono HBS.out)).grown HG3.out (Nat.le_trans HBS.out HB2.out.size) (fun j e => HTK2.out.1 j e)).grown HG4.out (Nat.le_trans HBS.out (Nat.le_trans HB2.out.size HG3.out.size)) (fun j e => HR3.out.1 j e)⟩
                  go_roundg gs
                  case measure => exact Nat.lt_succ_self _
                  case rel =>
                    refine ⟨2, q + 1, c4, A4, _, rfl, rfl, ⟨by have := HS.out; omega⟩, HR4, ⟨?_⟩, ⟨by have := HQL.out; omega⟩, ⟨?_⟩, HB4⟩
                    · rw [List.length_append, List.length_append, HLTK.out, HLN2.out]
                      simp
                      omega
                    · have h := HINS.out
                      simpa using h

            · have hk0 : ¬ ((k : Int) < (q : Int)) := by omega
              have hkq2 : k = q := by have := HK.out; omega
              have hge : ∀ u, out[k]? = some u → z2 < u := fun u hu => by
                have := (List.getElem?_eq_some_iff.1 hu).1
                rw [HQ.out] at this
                omega
              have hqd : q ≤ d := (Kd.R_reads' HO.out).2.1
              have hkle : k ≤ q := by omega
              have hRD := (Kd.R_reads' HO.out).2.2
              clear hkq2
              have hcf := cut_from (P := Try.prog) 45 3 .i64 Try.underlying45 hi3 1 hz3 B q d (k : Int) (by omega) (by omega)
              have hct := cut_to (P := Try.prog) 45 3 .i64 Try.underlying45 hi3 B q d (k : Int) (by omega) (by omega) hqd
              rw [Int.toNat_natCast] at hcf hct
              have hdr := Kd.C_drop (k := kI) (m := k) (c := d) (xs := out) (A := B) (w := wr) hRD (by rw [HQ.out]; omega) (by rw [HQ.out]; exact hqd)
              rw [show k * kI.sz = k * 1 from rfl] at hdr
              obtain ⟨B', hB'⟩ : ∃ X, (if d = k then B else Option.map (fun a => a.add (k * 1)) B) = X := ⟨_, rfl⟩
              have hln2 : (out.drop k).length = q - k := by rw [List.length_drop, HQ.out]
              rw [hB', hln2] at hdr
              rw [hB'] at hcf
              have HDR := Aside0.mk hdr
              have HLN2 := Aside0.mk hln2
              have HTK := Aside0.mk (Kd.R_take (m := k) HO.out (by rw [HQ.out]; omega))
              have hltk : (out.take k).length = k := by rw [List.length_take, HQ.out]; omega
              have HLTK := Aside0.mk hltk
              have HINS := Aside0.mk (HE.out.ins (x := z2) (k := k) hzr (by rw [HQ.out]; omega) HLT.out hge)
              have HBW : Aside0 (∀ j, (Value.slice B q d).ownBlock = some j → j < wr.heap.size) := ⟨fun j hj => Kd.R_lt HO.out j hj⟩
              have HOB : Aside0 ((Value.slice B k d).ownBlock = (Value.slice B q d).ownBlock) := ⟨by first | rfl | (cases B <;> rfl)⟩
              clear hdr hln2 hB' hRD hge hltk
              go_wp2_with (first
                | (at_builtin; refine Kd.R_append_rows kI (w0 := wr) 0 rfl (.const (.slice none 0 0)) (.tmp 62) 45 3 (.int .i64 0) 8 rfl Try.underlying45 info3a rfl (by decide) (by decide) (.slice none 0 0) [] (out.drop k) B' (q - k) (d - k) (fun j => wr.heap.size ≤ j) (fun _ => False) rfl rfl (Kd.R_nil _ _ _ _ _) HDR.out (fun _ _ h => h) (fun _ h => h.elim) (fun _ h => h) (Below.refl _ _) (Nat.zero_le _) (by simp; omega) ?_; intro v2 w2 hR2 _ hg2 _; rw [List.nil_append] at hR2; obtain ⟨A2, c2, hv2, hc2, hC2⟩ := Kd.R_reads hR2; rw [HLN2.out] at hv2 hC2; subst hv2; have hb2 : Below wr.heap.size wr w2 := ⟨hg2.os, hg2.tape, hg2.output, hg2.size, fun j hj => hg2.block j hj (by simp [Value.ownBlock])⟩; have HB2 := Aside0.mk hb2; have HR2 := Aside0.mk hR2; have HTK2 := Aside0.mk (Kd.R_below HTK.out hb2); clear hR2 hg2 hb2 hC2 hc2)
                | (at_builtin; refine Kd.R_append kI (w0 := w2) 0 rfl (.tmp 66) (.tmp 68) 45 3 (.int .i64 0) 8 rfl Try.underlying45 info3a rfl (by decide) (by decide) (.slice B k d) (out.take k) z2 [.int .i64 z2] (fun j => base ≤ j) (fun _ => False) rfl rfl rfl (fun _ h => h.elim) (fun j hj => Nat.le_trans (Nat.le_trans HBS.out HB2.out.size) hj) HTK2.out (Below.refl _ _) (Nat.zero_le _) (by rw [HLTK.out]; omega) ?_; intro v3 w3 hR3 _ hg3 hat3; obtain ⟨A3, c3, hv3, hc3, _⟩ := Kd.R_reads hR3; rw [show (out.take k ++ [z2]).length = k + 1 from (by rw [List.length_append, HLTK.out]; rfl)] at hv3; subst hv3; have HR3 := Aside0.mk hR3; have HG3 := Aside0.mk hg3; have hr23 := kd_turn (w1 := w3) HR2.out (fun j hj hlt => hg3.block j hlt (fun e => by have h1 := HR2.out.1 j hj; rw [HOB.out] at e; have h2 := HBW.out j e.symm; omega)); have HR23 := Aside0.mk hr23; clear hR3 hg3 hat3 hr23 hc3)
                | (at_builtin; refine Kd.R_append_rows kI (w0 := w3) 0 rfl (.tmp 69) (.tmp 70) 45 3 (.int .i64 0) 8 rfl Try.underlying45 info3a rfl (by decide) (by decide) (.slice A3 (k + 1) c3) (out.take k ++ [z2]) (out.drop k) A2 (q - k) c2 (fun j => base ≤ j) (fun _ => False) rfl rfl HR3.out (by have h := (Kd.R_reads' HR23.out).2.2; rw [HLN2.out] at h; exact h) (fun _ _ h => h) (fun _ h => h.elim) (fun j hj => Nat.le_trans (Nat.le_trans HBS.out (Nat.le_trans HB2.out.size HG3.out.size)) hj) (Below.refl _ _) (Nat.zero_le _) (by rw [List.length_append, HLTK.out]; simp; omega) ?_; intro v4 w4 hR4 _ hg4 hat4; obtain ⟨A4, c4, hv4, hc4, _⟩ := Kd.R_reads hR4; rw [show (out.take k ++ [z2] ++ out.drop k).length = q + 1 from (by rw [List.length_append, List.length_append, HLTK.out, HLN2.out]; simp; omega)] at hv4; subst hv4; have HR4 := Aside0.mk hR4; have HG4 := Aside0.mk hg4; clear hR4 hg4 hat4 hc4))
              have HB4 : Aside0 (Below base w w4) := ⟨((HB.out.trans (HB2.out.mono HBS.out)).grown HG3.out (Nat.le_trans HBS.out HB2.out.size) (fun j e => HTK2.out.1 j e)).grown HG4.out (Nat.le_trans HBS.out (Nat.le_trans HB2.out.size HG3.out.size)) (fun j e => HR3.out.1 j e)⟩
              go_roundg gs
              case measure => exact Nat.lt_succ_self _
              case rel =>
                refine ⟨2, q + 1, c4, A4, _, rfl, rfl, ⟨by have := HS.out; omega⟩, HR4, ⟨?_⟩, ⟨by have := HQL.out; omega⟩, ⟨?_⟩, HB4⟩
                · rw [List.length_append, List.length_append, HLTK.out, HLN2.out]
                  simp
                  omega
                · have h := HINS.out
                  simpa using h
        · have hs2 : ¬ ((s : Int) < 2) := by omega
          have hse : s = 2 := by have := HS.out; omega
          have hne : EI out0 (endsL (l.take (i + 1))) out := by
            have h := HE.out
            rw [hse] at h
            rw [ends_snoc HX.out, HZ1.out, HZ2.out]
            simpa using h
          have HNE := Aside0.mk hne
          clear hne HE hse e0 e1
          go_wp2_with (fail)
          go_roundg gn
          case measure => exact Nat.lt_succ_self _
          case rel => exact ⟨i + 1, q, d, B, out, by simp, rfl, ⟨by have := HI.out; omega⟩, HO, HQ, ⟨by have := HQL.out; have := HS.out; omega⟩, HNE, HB⟩
    · have hq : ¬ ((i : Int) < (n : Int)) := by omega
      have hfin : EndsP w base out0 l (.returned (.slice B q d)) wr := by
        refine ⟨_, out, rfl, HO.out, ?_, ?_, HB.out⟩
        · have h := HE.out
          rw [List.take_of_length_le (by rw [HLN.out]; omega)] at h
          exact h
        · have h1 := HQL.out
          have h2 := HI.out
          rw [HQ.out, HQ0.out, HLN.out]
          omega
      have HF := Aside0.mk hfin
      clear hfin HO HQ HQL HE HB HI
      go_wp2_with (fail)
      go_ret
      exact HF.out
end Go.Proofs.Ytcbddmmoioggaaa.Sp
