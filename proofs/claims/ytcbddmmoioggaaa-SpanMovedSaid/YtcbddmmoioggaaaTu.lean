/- turns: the ends of two lists, sorted, and what goes over them. -/
import Derived.Test.YtcbddmmoioggaaaSr
import Derived.Test.YtcbddmmoioggaaaOa
import Derived.Test.YtcbddmmoioggaaaHb
namespace Go.Proofs.Ytcbddmmoioggaaa.Sp
open Go.RowKit Go.Proofs.YtcbddmmoioggaaaW.PrintWords Go.Proofs.YtcbddmmoioggaaaW.PrintLast Go.Proofs.YtcbddmmoioggaaaW.PrintMore
attribute [local go_sem] max2_int min2_int max_two min_two max_three min_three max_four min_four
set_option linter.unusedVariables false
set_option linter.unusedSimpArgs false
theorem info56 : (Try.prog.info? 56).map (fun i => (i.zero, i.size, i.bytes)) = some (some (.agg #[.int .i64 0, .int .i64 0, .int .i64 0]), 3, 24) := by kernel_rfl
theorem idx0 (A : Option Addr) (n c : Nat) (y : Value) (W : World) : (Instr.index 54 (.agg #[.slice A n c, y]) (.int .i64 0)).run Try.prog W = .ok (.slice A n c) W := by
  unfold Instr.index
  simp [Sem.run_bind, Try.underlying54, go_sem]
theorem idx1 (x : Value) (A : Option Addr) (n c : Nat) (W : World) : (Instr.index 54 (.agg #[x, .slice A n c]) (.int .i64 1)).run Try.prog W = .ok (.slice A n c) W := by
  unfold Instr.index
  simp [Sem.run_bind, Try.underlying54, go_sem]
theorem two_row (w : World) (x y : En) : ReadsRow REn 3 (w.alloc (.cells #[.int .i64 x.a, .int .i64 x.w, .int .i64 x.b, .int .i64 y.a, .int .i64 y.w, .int .i64 y.b] 56)) (some ⟨w.heap.size, 0, none⟩) 2 [x, y] := by
  have hb := heap_alloc_new w (.cells #[.int .i64 x.a, .int .i64 x.w, .int .i64 x.b, .int .i64 y.a, .int .i64 y.w, .int .i64 y.b] 56)
  refine ⟨rfl, by decide, fun _ => ⟨_, rfl, fun k a ha => ⟨enc3 a, rfl, rfl, fun j u hu => ?_⟩⟩⟩
  rw [add_plain]
  match k, ha with
  | 0, ha =>
    simp at ha
    subst ha
    match j, hu with
    | 0, hu => simp [enc3] at hu; subst hu; exact cell_of_row _ _ _ _ _ _ hb
    | 1, hu => simp [enc3] at hu; subst hu; exact cell_of_row _ _ _ _ _ _ hb
    | 2, hu => simp [enc3] at hu; subst hu; exact cell_of_row _ _ _ _ _ _ hb
  | 1, ha =>
    simp at ha
    subst ha
    match j, hu with
    | 0, hu => simp [enc3] at hu; subst hu; exact cell_of_row _ _ _ _ _ _ hb
    | 1, hu => simp [enc3] at hu; subst hu; exact cell_of_row _ _ _ _ _ _ hb
    | 2, hu => simp [enc3] at hu; subst hu; exact cell_of_row _ _ _ _ _ _ hb
theorem evl_snoc {w : Int} {l : List Rg} {k : Nat} {x : Rg} (h : l[k]? = some x) : evl w (l.take (k + 1)) = evl w (l.take k) ++ evr w x := by
  rw [take_snoc h]
  simp [evl]
/-- What turns tells. -/
def TurnsP (w : World) (a b : List Rg) (e : Ending) (w' : World) : Prop :=
  ∃ (p : Nat) (A3 : Option Addr) (n3 c3 : Nat) (E : List En), e = .returned (.func (.func 42) #[] #[pv p]) ∧ w'.heap[p]? = some (.cells #[.slice A3 n3 c3] 53 (0, 0)) ∧ ReadsRow REn 3 w' A3 n3 E ∧ (∀ g, A3 = some ⟨g, 0, none⟩ → ∃ cs, w'.heap[g]? = some (.cells cs 56 (0, 0))) ∧
    (0 < n3 → ∃ g, A3 = some ⟨g, 0, none⟩) ∧ E.Perm (evl 0 a ++ evl 1 b) ∧ Srt E ∧ n3 ≤ 2 * (a.length + b.length) ∧ w.heap.size ≤ p ∧ Below w.heap.size w w'
/-- What has come when s lists are over; how many that may be. -/
def preE (a b : List Rg) (s : Nat) : List En := if s = 0 then [] else if s = 1 then evl 0 a else evl 0 a ++ evl 1 b
def preN (n m s : Nat) : Nat := if s = 0 then 0 else if s = 1 then 2 * n else 2 * n + 2 * m
set_option maxRecDepth 100000 in
set_option maxHeartbeats 16000000 in
theorem turns_c (A : Option Addr) (n c : Nat) (a : List Rg) (B : Option Addr) (m d : Nat) (b : List Rg) (w : World) (hA : ReadsRow RRg 2 w A n a) (hB : ReadsRow RRg 2 w B m b) (hnm : n + m ≤ 100000) :
    Calls Try.prog 38 #[.slice A n c, .slice B m d] w fun e w' => TurnsP w a b e w' := by
  have HA := Aside0.mk hA
  have HB_ := Aside0.mk hB
  clear hA hB
  go_enter Try.func38, Try.ntmps38
  go_upto_block 0 with (fail)
  obtain ⟨p, hp⟩ : ∃ q, w.heap.size = q := ⟨_, rfl⟩
  obtain ⟨wp, hwp⟩ : ∃ q, w.alloc (.cells #[.slice none 0 0] 53) = q := ⟨_, rfl⟩
  rw [hwp, hp]
  have hbp : Below w.heap.size w wp := by rw [← hwp]; exact below_alloc (Below.refl _ w) _
  have HP0 : Aside0 (wp.heap[p]? = some (.cells #[.slice none 0 0] 53 (0, 0))) := ⟨by rw [← hwp, ← hp]; exact heap_alloc_new _ _⟩
  have HBP := Aside0.mk hbp
  have HPW : Aside0 (w.heap.size ≤ p) := ⟨by omega⟩
  clear hwp hp hbp
  go_wp2_with (fail)
  go_loopg [15] 2 (fun gs v15 wr => ∃ (s q c3 : Nat) (A3 : Option Addr) (E : List En), v15 = .int .i64 (s : Int) ∧ Aside0 (s + gs = 2) ∧ Aside0 (wr.heap[p]? = some (.cells #[.slice A3 q c3] 53 (0, 0))) ∧ Aside0 (kV.R 56 wr 0 (fun j => w.heap.size ≤ j) (.slice A3 q c3) E) ∧ Aside0 (E.length = q) ∧ Aside0 (E = preE a b s) ∧ Aside0 (q ≤ preN n m s) ∧ Aside0 (Below w.heap.size w wr))
  case atStart => exact ⟨0, 0, 0, none, [], rfl, ⟨rfl⟩, HP0, ⟨Kd.R_nil _ _ _ _ _⟩, ⟨rfl⟩, ⟨rfl⟩, ⟨Nat.le_refl _⟩, HBP⟩
  case round =>
    clear HP0 HBP
    obtain ⟨s, q, c3, A3, E, rfl, HS, HP, HV, HVL, HVE, HVQ, HB⟩ := hrel
    by_cases hs0 : s = 0
    · subst hs0
      obtain ⟨gs, rfl⟩ : ∃ gs', gk = gs' + 1 := ⟨gk - 1, by have := HS.out; omega⟩
      have hx0 := idx0 A n c (.slice B m d)
      have hve : E = [] := HVE.out
      have HVE : Aside0 (E = []) := ⟨hve⟩
      have HVQ : Aside0 (q ≤ 0) := HVQ
      clear hve
      go_upto_block 2 with (fail)
      go_wp2_with (fail)
      go_loopg [21] n (fun gj v21 wj => ∃ (k q c3 : Nat) (A3 : Option Addr) (E : List En), v21 = .int .i64 (k : Int) ∧ Aside0 (k + gj = n) ∧ Aside0 (wj.heap[p]? = some (.cells #[.slice A3 q c3] 53 (0, 0))) ∧ Aside0 (kV.R 56 wj 0 (fun j => w.heap.size ≤ j) (.slice A3 q c3) E) ∧ Aside0 (E.length = q) ∧ Aside0 (E = evl 0 (a.take k)) ∧ Aside0 (q ≤ 2 * k) ∧ Aside0 (Below w.heap.size w wj))
      case atStart => exact ⟨0, q, c3, A3, E, rfl, ⟨by omega⟩, HP, HV, HVL, ⟨by rw [HVE.out]; rfl⟩, ⟨by have := HVQ.out; omega⟩, HB⟩
      case round =>
        clear HP HV HVL HVE HVQ HB
        obtain ⟨k, q, c3, A3, E, rfl, HK, HP, HV, HVL, HVE, HVQ, HB⟩ := hrel
        by_cases hkn : k < n
        · obtain ⟨gj, rfl⟩ : ∃ gj, gk = gj + 1 := ⟨gk - 1, by have := HK.out; omega⟩
          obtain ⟨x, hx⟩ : ∃ x, a[k]? = some x := ⟨_, List.getElem?_eq_getElem (by rw [HA.out.1]; exact hkn)⟩
          obtain ⟨ad, hA, _⟩ := HA.out.2.2 (by omega)
          subst hA
          obtain ⟨e0, e1⟩ := rg_at (rgs_below HA.out HB.out) hx
          have k0 : (0 : Int) ≤ (k : Int) := by omega
          have k1 : (k : Int) < (n : Int) := by omega
          have hwk : IntKind.i64.wrap ((k : Int) + 1) = (k : Int) + 1 := IntWalk.i64_in _ (by omega)
          have HSN := Aside0.mk (evl_snoc (w := 0) hx)
          have HC1 := Aside0.mk (fun W => clip_c x.f W)
          have HC2 := Aside0.mk (fun W => clip_c x.t W)
          have hevr : evr 0 x = if clip x.f < clip x.t then [⟨clip x.f, 0, 1⟩, ⟨clip x.t, 0, -1⟩] else [] := rfl
          have HEV := Aside0.mk hevr
          obtain ⟨z1, hz1⟩ : ∃ q, clip x.f = q := ⟨_, rfl⟩
          obtain ⟨z2, hz2⟩ : ∃ q, clip x.t = q := ⟨_, rfl⟩
          rw [hz1] at HC1 HEV
          rw [hz2] at HC2 HEV
          clear hx hevr hz1 hz2
          go_upto_region 8 with (fail)
          obtain ⟨b9, hb9⟩ : ∃ q, wr.heap.size = q := ⟨_, rfl⟩
          obtain ⟨wx, hwx⟩ : ∃ q, wr.alloc (.cells #[.int .i64 x.f, .int .i64 x.t] 31) = q := ⟨_, rfl⟩
          rw [hwx, hb9]
          have hbx : Below wr.heap.size wr wx := by rw [← hwx]; exact below_alloc (Below.refl _ wr) _
          have hx9 : wx.heap[b9]? = some (.cells #[.int .i64 x.f, .int .i64 x.t] 31 (0, 0)) := by rw [← hwx, ← hb9]; exact heap_alloc_new _ _
          have x0 : wx.cell? ⟨b9, 0, none⟩ = some (.int .i64 x.f) := cell_of_row _ _ _ _ _ _ hx9
          have x1 : wx.cell? ⟨b9, 1, none⟩ = some (.int .i64 x.t) := cell_of_row _ _ _ _ _ _ hx9
          have HPX := Aside0.mk ((hbx.block p (blk_lt HP.out)).trans HP.out)
          have HVX := Aside0.mk (Kd.R_below HV.out hbx)
          have HBX : Aside0 (Below w.heap.size w wx) := ⟨HB.out.trans (hbx.mono HB.out.size)⟩
          clear hwx hbx hx9 hb9 e0 e1
          go_quiet (first | (go_at_call 27; refine Calls.quiet_of_same (HC1.out _)) | (go_at_call 27; refine Calls.quiet_of_same (HC2.out _)))
          obtain ⟨wy, hwy⟩ : ∃ q, wx.drewN nq = q := ⟨_, rfl⟩
          rw [hwy]
          have hby : Below wx.heap.size wx wy := by rw [← hwy]; exact pw_below_drewN (Below.refl _ wx) nq
          have HPY := Aside0.mk ((hby.block p (blk_lt HPX.out)).trans HPX.out)
          have HVY := Aside0.mk (Kd.R_below HVX.out hby)
          have HBY : Aside0 (Below w.heap.size w wy) := ⟨HBX.out.trans (hby.mono HBX.out.size)⟩
          have py : wy.cell? ⟨p, 0, none⟩ = some (.slice A3 q c3) := cell_of_row _ _ _ _ _ _ HPY.out
          have fy := blk_frozen HPY.out 0
          clear hwy hby x0 x1 HC1 HC2
          by_cases hzz : z1 < z2
          · have HEE : Aside0 (E ++ [⟨z1, 0, 1⟩, ⟨z2, 0, -1⟩] = evl 0 (a.take (k + 1))) := ⟨by rw [HSN.out, HEV.out, if_pos hzz, HVE.out]⟩
            have hq8 : q ≤ 1000000 := by have := HVQ.out; omega
            obtain ⟨wa, hwa⟩ : ∃ q, wy.alloc (.cells #[.int .i64 z1, .int .i64 0, .int .i64 1, .int .i64 z2, .int .i64 0, .int .i64 (-1)] 56) = q := ⟨_, rfl⟩
            have hba : Below wy.heap.size wy wa := by rw [← hwa]; exact below_alloc (Below.refl _ wy) _
            have HTR : Aside0 (ReadsRow REn 3 wa (some ⟨wy.heap.size, 0, none⟩) 2 [⟨z1, 0, 1⟩, ⟨z2, 0, -1⟩]) := ⟨by rw [← hwa]; exact two_row wy ⟨z1, 0, 1⟩ ⟨z2, 0, -1⟩⟩
            have HPA := Aside0.mk ((hba.block p (blk_lt HPY.out)).trans HPY.out)
            have HVA := Aside0.mk (Kd.R_below HVY.out hba)
            have HBA : Aside0 (Below w.heap.size w wa) := ⟨HBY.out.trans (hba.mono HBY.out.size)⟩
            have HWA := Aside0.mk hwa
            clear hwa hba
            go_wp2_with (at_builtin; rw [HWA.out]; refine Kd.R_append_rows kV (Rr := REn) (w0 := wa) 0 rfl (.tmp 34) (.tmp 41) 53 56 (.agg #[.int .i64 0, .int .i64 0, .int .i64 0]) 24 rfl Try.underlying53 info56 rfl (by decide) (by decide) (.slice A3 q c3) E [⟨z1, 0, 1⟩, ⟨z2, 0, -1⟩] (some ⟨wy.heap.size, 0, none⟩) 2 2 (fun j => w.heap.size ≤ j) (fun _ => False) rfl rfl HVA.out HTR.out (fun _ _ h => h) (fun _ h => h.elim) (fun j hj => Nat.le_trans HBA.out.size hj) (Below.refl _ _) (Nat.zero_le _) (by rw [HVL.out]; omega) ?_; intro v4 w4 hR4 _ hg4 hat4; obtain ⟨A4, c4, hv4, hc4, _⟩ := Kd.R_reads hR4; rw [show (E ++ [(⟨z1, 0, 1⟩ : En), ⟨z2, 0, -1⟩]).length = q + 2 from (by rw [List.length_append, HVL.out]; rfl)] at hv4; subst hv4; have hp4 := (hg4.block p (blk_lt HPA.out) (Kd.R_ne HVA.out HPA.out (by decide))).trans HPA.out; have HR4 := Aside0.mk hR4; have HP4 := Aside0.mk hp4; have HB4 : Aside0 (Below w.heap.size w w4) := ⟨HBA.out.grown hg4 HBA.out.size (fun j e => HVA.out.1 j e)⟩; have p4 : w4.cell? ⟨p, 0, none⟩ = some (.slice A3 q c3) := cell_of_row _ _ _ _ _ _ hp4; have f4 := blk_frozen hp4 0; clear hR4 hg4 hat4 hp4 hc4)
            go_roundg gj
            case measure => exact Nat.lt_succ_self _
            case rel => exact ⟨k + 1, q + 2, c4, A4, _, by simp, ⟨by have := HK.out; omega⟩, ⟨blk_set HP4.out 0 _⟩, ⟨Kd.R_set HR4.out HP4.out (by decide) 0 _⟩, ⟨by rw [List.length_append, HVL.out]; rfl⟩, HEE, ⟨by have := HVQ.out; omega⟩, ⟨HB4.out.setCell (p := ⟨p, 0, none⟩) HPW.out _⟩⟩
          · have HEE : Aside0 (E = evl 0 (a.take (k + 1))) := ⟨by rw [HSN.out, HEV.out, if_neg hzz, HVE.out]; simp⟩
            go_wp2_with (fail)
            go_roundg gj
            case measure => exact Nat.lt_succ_self _
            case rel => exact ⟨k + 1, q, c3, A3, E, by simp, ⟨by have := HK.out; omega⟩, HPY, HVY, HVL, HEE, ⟨by have := HVQ.out; omega⟩, HBY⟩
        · have hk1 : ¬ ((k : Int) < (n : Int)) := by omega
          have HVE2 : Aside0 (E = evl 0 a) := ⟨by
            have h := HVE.out
            rw [List.take_of_length_le (by rw [HA.out.1]; omega)] at h
            exact h⟩
          have HVQ2 : Aside0 (q ≤ 2 * n) := ⟨by have := HVQ.out; have := HK.out; omega⟩
          clear HK HVE HVQ
          go_wp2_with (fail)
          go_roundg gs
          case measure => exact Nat.lt_succ_self _
          case rel => exact ⟨1, q, c3, A3, E, rfl, ⟨by have := HS.out; omega⟩, HP, HV, HVL, HVE2, HVQ2, HB⟩
    by_cases hs1 : s = 1
    · subst hs1
      obtain ⟨gs, rfl⟩ : ∃ gs', gk = gs' + 1 := ⟨gk - 1, by have := HS.out; omega⟩
      have hx1 := idx1 (.slice A n c) B m d
      have HVE : Aside0 (E = evl 0 a) := HVE
      have HVQ : Aside0 (q ≤ 2 * n) := HVQ
      go_upto_block 2 with (fail)
      go_wp2_with (fail)
      go_loopg [21] m (fun gj v21 wj => ∃ (k q c3 : Nat) (A3 : Option Addr) (E : List En), v21 = .int .i64 (k : Int) ∧ Aside0 (k + gj = m) ∧ Aside0 (wj.heap[p]? = some (.cells #[.slice A3 q c3] 53 (0, 0))) ∧ Aside0 (kV.R 56 wj 0 (fun j => w.heap.size ≤ j) (.slice A3 q c3) E) ∧ Aside0 (E.length = q) ∧ Aside0 (E = evl 0 a ++ evl 1 (b.take k)) ∧ Aside0 (q ≤ 2 * n + 2 * k) ∧ Aside0 (Below w.heap.size w wj))
      case atStart => exact ⟨0, q, c3, A3, E, rfl, ⟨by omega⟩, HP, HV, HVL, ⟨by rw [HVE.out]; simp [evl]⟩, ⟨by have := HVQ.out; omega⟩, HB⟩
      case round =>
        clear HP HV HVL HVE HVQ HB
        obtain ⟨k, q, c3, A3, E, rfl, HK, HP, HV, HVL, HVE, HVQ, HB⟩ := hrel
        by_cases hkn : k < m
        · obtain ⟨gj, rfl⟩ : ∃ gj, gk = gj + 1 := ⟨gk - 1, by have := HK.out; omega⟩
          obtain ⟨x, hx⟩ : ∃ x, b[k]? = some x := ⟨_, List.getElem?_eq_getElem (by rw [HB_.out.1]; exact hkn)⟩
          obtain ⟨ad, hA, _⟩ := HB_.out.2.2 (by omega)
          subst hA
          obtain ⟨e0, e1⟩ := rg_at (rgs_below HB_.out HB.out) hx
          have k0 : (0 : Int) ≤ (k : Int) := by omega
          have k1 : (k : Int) < (m : Int) := by omega
          have hwk : IntKind.i64.wrap ((k : Int) + 1) = (k : Int) + 1 := IntWalk.i64_in _ (by omega)
          have HSN := Aside0.mk (evl_snoc (w := 1) hx)
          have HC1 := Aside0.mk (fun W => clip_c x.f W)
          have HC2 := Aside0.mk (fun W => clip_c x.t W)
          have hevr : evr 1 x = if clip x.f < clip x.t then [⟨clip x.f, 1, 1⟩, ⟨clip x.t, 1, -1⟩] else [] := rfl
          have HEV := Aside0.mk hevr
          obtain ⟨z1, hz1⟩ : ∃ q, clip x.f = q := ⟨_, rfl⟩
          obtain ⟨z2, hz2⟩ : ∃ q, clip x.t = q := ⟨_, rfl⟩
          rw [hz1] at HC1 HEV
          rw [hz2] at HC2 HEV
          clear hx hevr hz1 hz2
          go_upto_region 8 with (fail)
          obtain ⟨b9, hb9⟩ : ∃ q, wr.heap.size = q := ⟨_, rfl⟩
          obtain ⟨wx, hwx⟩ : ∃ q, wr.alloc (.cells #[.int .i64 x.f, .int .i64 x.t] 31) = q := ⟨_, rfl⟩
          rw [hwx, hb9]
          have hbx : Below wr.heap.size wr wx := by rw [← hwx]; exact below_alloc (Below.refl _ wr) _
          have hx9 : wx.heap[b9]? = some (.cells #[.int .i64 x.f, .int .i64 x.t] 31 (0, 0)) := by rw [← hwx, ← hb9]; exact heap_alloc_new _ _
          have x0 : wx.cell? ⟨b9, 0, none⟩ = some (.int .i64 x.f) := cell_of_row _ _ _ _ _ _ hx9
          have x1 : wx.cell? ⟨b9, 1, none⟩ = some (.int .i64 x.t) := cell_of_row _ _ _ _ _ _ hx9
          have HPX := Aside0.mk ((hbx.block p (blk_lt HP.out)).trans HP.out)
          have HVX := Aside0.mk (Kd.R_below HV.out hbx)
          have HBX : Aside0 (Below w.heap.size w wx) := ⟨HB.out.trans (hbx.mono HB.out.size)⟩
          clear hwx hbx hx9 hb9 e0 e1
          go_quiet (first | (go_at_call 27; refine Calls.quiet_of_same (HC1.out _)) | (go_at_call 27; refine Calls.quiet_of_same (HC2.out _)))
          obtain ⟨wy, hwy⟩ : ∃ q, wx.drewN nq = q := ⟨_, rfl⟩
          rw [hwy]
          have hby : Below wx.heap.size wx wy := by rw [← hwy]; exact pw_below_drewN (Below.refl _ wx) nq
          have HPY := Aside0.mk ((hby.block p (blk_lt HPX.out)).trans HPX.out)
          have HVY := Aside0.mk (Kd.R_below HVX.out hby)
          have HBY : Aside0 (Below w.heap.size w wy) := ⟨HBX.out.trans (hby.mono HBX.out.size)⟩
          have py : wy.cell? ⟨p, 0, none⟩ = some (.slice A3 q c3) := cell_of_row _ _ _ _ _ _ HPY.out
          have fy := blk_frozen HPY.out 0
          clear hwy hby x0 x1 HC1 HC2
          by_cases hzz : z1 < z2
          · have HEE : Aside0 (E ++ [⟨z1, 1, 1⟩, ⟨z2, 1, -1⟩] = evl 0 a ++ evl 1 (b.take (k + 1))) := ⟨by rw [HSN.out, HEV.out, if_pos hzz, HVE.out]; simp⟩
            have hq8 : q ≤ 1000000 := by have := HVQ.out; omega
            obtain ⟨wa, hwa⟩ : ∃ q, wy.alloc (.cells #[.int .i64 z1, .int .i64 1, .int .i64 1, .int .i64 z2, .int .i64 1, .int .i64 (-1)] 56) = q := ⟨_, rfl⟩
            have hba : Below wy.heap.size wy wa := by rw [← hwa]; exact below_alloc (Below.refl _ wy) _
            have HTR : Aside0 (ReadsRow REn 3 wa (some ⟨wy.heap.size, 0, none⟩) 2 [⟨z1, 1, 1⟩, ⟨z2, 1, -1⟩]) := ⟨by rw [← hwa]; exact two_row wy ⟨z1, 1, 1⟩ ⟨z2, 1, -1⟩⟩
            have HPA := Aside0.mk ((hba.block p (blk_lt HPY.out)).trans HPY.out)
            have HVA := Aside0.mk (Kd.R_below HVY.out hba)
            have HBA : Aside0 (Below w.heap.size w wa) := ⟨HBY.out.trans (hba.mono HBY.out.size)⟩
            have HWA := Aside0.mk hwa
            clear hwa hba
            go_wp2_with (at_builtin; rw [HWA.out]; refine Kd.R_append_rows kV (Rr := REn) (w0 := wa) 0 rfl (.tmp 34) (.tmp 41) 53 56 (.agg #[.int .i64 0, .int .i64 0, .int .i64 0]) 24 rfl Try.underlying53 info56 rfl (by decide) (by decide) (.slice A3 q c3) E [⟨z1, 1, 1⟩, ⟨z2, 1, -1⟩] (some ⟨wy.heap.size, 0, none⟩) 2 2 (fun j => w.heap.size ≤ j) (fun _ => False) rfl rfl HVA.out HTR.out (fun _ _ h => h) (fun _ h => h.elim) (fun j hj => Nat.le_trans HBA.out.size hj) (Below.refl _ _) (Nat.zero_le _) (by rw [HVL.out]; omega) ?_; intro v4 w4 hR4 _ hg4 hat4; obtain ⟨A4, c4, hv4, hc4, _⟩ := Kd.R_reads hR4; rw [show (E ++ [(⟨z1, 1, 1⟩ : En), ⟨z2, 1, -1⟩]).length = q + 2 from (by rw [List.length_append, HVL.out]; rfl)] at hv4; subst hv4; have hp4 := (hg4.block p (blk_lt HPA.out) (Kd.R_ne HVA.out HPA.out (by decide))).trans HPA.out; have HR4 := Aside0.mk hR4; have HP4 := Aside0.mk hp4; have HB4 : Aside0 (Below w.heap.size w w4) := ⟨HBA.out.grown hg4 HBA.out.size (fun j e => HVA.out.1 j e)⟩; have p4 : w4.cell? ⟨p, 0, none⟩ = some (.slice A3 q c3) := cell_of_row _ _ _ _ _ _ hp4; have f4 := blk_frozen hp4 0; clear hR4 hg4 hat4 hp4 hc4)
            go_roundg gj
            case measure => exact Nat.lt_succ_self _
            case rel => exact ⟨k + 1, q + 2, c4, A4, _, by simp, ⟨by have := HK.out; omega⟩, ⟨blk_set HP4.out 0 _⟩, ⟨Kd.R_set HR4.out HP4.out (by decide) 0 _⟩, ⟨by rw [List.length_append, HVL.out]; rfl⟩, HEE, ⟨by have := HVQ.out; omega⟩, ⟨HB4.out.setCell (p := ⟨p, 0, none⟩) HPW.out _⟩⟩
          · have HEE : Aside0 (E = evl 0 a ++ evl 1 (b.take (k + 1))) := ⟨by rw [HSN.out, HEV.out, if_neg hzz, HVE.out]; simp⟩
            go_wp2_with (fail)
            go_roundg gj
            case measure => exact Nat.lt_succ_self _
            case rel => exact ⟨k + 1, q, c3, A3, E, by simp, ⟨by have := HK.out; omega⟩, HPY, HVY, HVL, HEE, ⟨by have := HVQ.out; omega⟩, HBY⟩
        · have hk1 : ¬ ((k : Int) < (m : Int)) := by omega
          have HVE2 : Aside0 (E = evl 0 a ++ evl 1 b) := ⟨by
            have h := HVE.out
            rw [List.take_of_length_le (by rw [HB_.out.1]; omega)] at h
            exact h⟩
          have HVQ2 : Aside0 (q ≤ 2 * n + 2 * m) := ⟨by have := HVQ.out; have := HK.out; omega⟩
          clear HK HVE HVQ
          go_wp2_with (fail)
          go_roundg gs
          case measure => exact Nat.lt_succ_self _
          case rel => exact ⟨2, q, c3, A3, E, rfl, ⟨by have := HS.out; omega⟩, HP, HV, HVL, HVE2, HVQ2, HB⟩
    · have hs2 : s = 2 := by have := HS.out; omega
      subst hs2
      have hve : E = evl 0 a ++ evl 1 b := HVE.out
      have hvq : q ≤ 2 * n + 2 * m := HVQ.out
      have HVE2 := Aside0.mk hve
      have HSO := Aside0.mk (sort_c A3 q c3 E wr _ HV.out (by omega))
      have py : wr.cell? ⟨p, 0, none⟩ = some (.slice A3 q c3) := cell_of_row _ _ _ _ _ _ HP.out
      clear hs0 hs1 hve
      go_wp2_with (go_at_call 39; refine HSO.out.mono ?_)
      rintro _ w5 ⟨rfl, E', hperm, hsrt, hread, hgr, hkind⟩
      have hown : (Value.slice A3 q c3).ownBlock = A3.map (·.block) := by cases A3 <;> rfl
      have hne : some p ≠ A3.map (·.block) := by rw [← hown]; exact Kd.R_ne HV.out HP.out (by decide)
      have hp5 := (hgr.block p (blk_lt HP.out) hne).trans HP.out
      have hfin : TurnsP w a b (.returned (.func (.func 42) #[] #[pv p])) w5 := by
        refine ⟨p, A3, q, c3, E', rfl, hp5, hread, hkind, fun h0 => ?_, by rw [← HVE2.out]; exact hperm, hsrt, ?_, HPW.out, HB.out.grown hgr HB.out.size (fun j e => HV.out.1 j (by rw [hown]; exact e))⟩
        · obtain ⟨g, cap, hv, _⟩ := formV HV.out (by rw [HVL.out]; exact h0)
          injection hv with hv1
          exact ⟨g, hv1⟩
        · rw [HA.out.1, HB_.out.1]
          omega
      have HF := Aside0.mk hfin
      clear hfin hperm hsrt hread hgr hkind hown hne hp5 py HSO
      go_wp2_with (fail)
      go_ret
      exact HF.out
end Go.Proofs.Ytcbddmmoioggaaa.Sp
