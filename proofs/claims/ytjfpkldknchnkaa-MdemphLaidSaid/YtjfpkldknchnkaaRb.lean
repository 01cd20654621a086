/- All runs of a part: what they are, computed. -/
import Derived.Test.YtjfpkldknchnkaaLc
import Derived.Test.YtjfpkldknchnkaaPw
namespace Go.Proofs.Ytjfpkldknchnkaa.Me
open Go.RowKit Go.Proofs.YtjfpkldknchnkaaW.PrintWords Go.Proofs.YtjfpkldknchnkaaW.PrintLast Go.Proofs.YtjfpkldknchnkaaW.PrintMore
attribute [local go_sem] max2_int min2_int max_two min_two max_three min_three max_four min_four
set_option linter.unusedVariables false
set_option linter.unusedSimpArgs false
/-- Where a line's end begins, looked for from place k. -/
def endG (S : ByteArray) : Nat → Nat → Int
  | 0, k => (k : Int)
  | f + 1, k => if bt S (k : Int) = 10 then (if 0 < k ∧ bt S ((k : Int) - 1) = 13 then (k : Int) - 1 else (k : Int)) else endG S f (k + 1)
def endC (S : ByteArray) : Int := endG S S.size 0
theorem endG_is (S : ByteArray) : ∀ (f k : Nat), f + k = S.size → (∀ j : Int, 0 ≤ j → j < (k : Int) → bt S j ≠ 10) → isEnd S (endG S f k)
  | 0, k, h, hn => .inl ⟨fun j h0 h1 => hn j h0 (by omega), by show (k : Int) = S.size; omega⟩
  | f + 1, k, h, hn => by
    unfold endG
    by_cases h10 : bt S (k : Int) = 10
    · rw [if_pos h10]
      refine .inr ⟨k, by omega, by omega, h10, hn, ?_⟩
      by_cases hc : 0 < k ∧ bt S ((k : Int) - 1) = 13
      · rw [if_pos hc]
        exact .inl ⟨by omega, hc.2, rfl⟩
      · rw [if_neg hc]
        exact .inr ⟨fun h => hc ⟨by omega, h.2⟩, rfl⟩
    · rw [if_neg h10]
      exact endG_is S f (k + 1) (by omega) (fun j h0 h1 => by
        rcases Int.lt_or_le j (k : Int) with h2 | h2
        · exact hn j h0 h2
        · obtain rfl : j = (k : Int) := by omega
          exact h10)
theorem endC_is (S : ByteArray) : isEnd S (endC S) := endG_is S S.size 0 (by omega) (fun j h0 h1 => by omega)
/-- How many bytes c stand from place i on. -/
def cntC (b : Int → Int) (c : Int) : Nat → Int → Int
  | 0, _ => 0
  | f + 1, i => if b i = c then 1 + cntC b c f (i + 1) else 0
theorem cntC_is (b : Int → Int) (c : Int) : ∀ (f : Nat) (i : Int), 0 ≤ cntC b c f i ∧ cntC b c f i ≤ f ∧ (∀ j, i ≤ j → j < i + cntC b c f i → b j = c) ∧ (cntC b c f i = f ∨ b (i + cntC b c f i) ≠ c)
  | 0, i => ⟨Int.le_refl _, Int.le_refl _, fun j h0 h1 => by unfold cntC at h1; omega, .inl rfl⟩
  | f + 1, i => by
    unfold cntC
    by_cases h : b i = c
    · rw [if_pos h]
      obtain ⟨h1, h2, h3, h4⟩ := cntC_is b c f (i + 1)
      refine ⟨by omega, by omega, fun j j0 j1 => ?_, ?_⟩
      · by_cases e : j = i
        · rw [e]; exact h
        · exact h3 j (by omega) (by omega)
      · rcases h4 with h5 | h5
        · exact .inl (by omega)
        · exact .inr (by rw [show i + (1 + cntC b c f (i + 1)) = i + 1 + cntC b c f (i + 1) by omega]; exact h5)
    · rw [if_neg h]
      exact ⟨Int.le_refl _, by omega, fun j j0 j1 => by omega, .inr (by rw [Int.add_zero]; exact h)⟩
instance (b : Int → Int) (fr at_ E : Int) : Decidable (good b fr at_ E) := by unfold good; infer_instance
def minE (S : ByteArray) (en : Int) : Int := if endC S < en then endC S else en
def runAt (S : ByteArray) (fr at_ E : Int) : Rn :=
  let N := cntC (bt S) (bt S at_) (E - at_).toNat at_
  let a := ofB (bt S) fr E (at_ + N)
  let p := ofB (bt S) fr E (at_ - 1)
  ⟨at_, N, bt S at_, opensB (bt S at_) a p, closesB (bt S at_) a p⟩
def lookB (S : ByteArray) (fr at_ E : Int) : Option Rn := if good (bt S) fr at_ E then some (runAt S fr at_ E) else none
theorem lookB_is (S : ByteArray) (fr at_ en : Int) : LookR S fr at_ en ((lookB S fr at_ (minE S en)).getD zeroR) (lookB S fr at_ (minE S en)).isSome := by
  refine ⟨endC S, minE S en, endC_is S, rfl, ?_⟩
  unfold lookB
  by_cases h : good (bt S) fr at_ (minE S en)
  · rw [if_pos h]
    refine .inr ⟨h, rfl, cntC (bt S) (bt S at_) (minE S en - at_).toNat at_, ?_, rfl⟩
    obtain ⟨h1, h2, h3, h4⟩ := cntC_is (bt S) (bt S at_) (minE S en - at_).toNat at_
    have h5 := h.2.2.1
    have hpos : 1 ≤ cntC (bt S) (bt S at_) (minE S en - at_).toNat at_ := by
      rcases h4 with h6 | h6
      · omega
      · by_cases e : cntC (bt S) (bt S at_) (minE S en - at_).toNat at_ = 0
        · rw [e, Int.add_zero] at h6
          exact absurd rfl h6
        · omega
    refine ⟨hpos, by omega, h3, ?_⟩
    rcases h4 with h6 | h6
    · exact .inl (by omega)
    · by_cases e : at_ + cntC (bt S) (bt S at_) (minE S en - at_).toNat at_ = minE S en
      · exact .inl e
      · exact .inr ⟨by omega, h6⟩
  · rw [if_neg h]
    exact .inl ⟨h, rfl, rfl⟩
/-- All runs from place at_ on, with fuel. -/
def runsG (S : ByteArray) (fr E : Int) : Nat → Int → List Rn
  | 0, _ => []
  | f + 1, i => if i < E then (match lookB S fr i E with
    | some r => r :: runsG S fr E f (i + r.n)
    | none => runsG S fr E f (i + 1)) else []
def runsB (S : ByteArray) (fr en : Int) : List Rn := runsG S fr (minE S en) (minE S en).toNat (if fr < 0 then 0 else fr)
theorem runsG_stop {S : ByteArray} {fr E : Int} {f : Nat} {i : Int} (h : ¬ i < E) : runsG S fr E f i = [] := by
  cases f with
  | zero => rfl
  | succ f => unfold runsG; rw [if_neg h]
theorem runsG_some {S : ByteArray} {fr E : Int} {f : Nat} {i : Int} {r : Rn} (h : i < E) (hr : lookB S fr i E = some r) : runsG S fr E (f + 1) i = r :: runsG S fr E f (i + r.n) := by
  rw [runsG, if_pos h, hr]
theorem runsG_none {S : ByteArray} {fr E : Int} {f : Nat} {i : Int} (h : i < E) (hr : lookB S fr i E = none) : runsG S fr E (f + 1) i = runsG S fr E f (i + 1) := by
  rw [runsG, if_pos h, hr]
theorem lookB_in {S : ByteArray} {fr i en : Int} {r : Rn} (h : lookB S fr i (minE S en) = some r) : 1 ≤ r.n ∧ i + r.n ≤ minE S en ∧ 0 ≤ i := by
  have hl := lookB_is S fr i en
  rw [h] at hl
  obtain ⟨n, E, h1, h2, h3⟩ := hl
  have hE : minE S en = E := by
    rw [h2]
    unfold minE
    rw [isEnd_uniq (endC_is S) h1]
  rcases h3 with ⟨_, _, h4⟩ | ⟨hg, _, N, hN, hr⟩
  · cases h4
  · have hr2 : r = _ := hr
    subst hr2
    exact ⟨hN.n1, by rw [hE]; exact hN.le, by have := hg.1; have := hg.2.1; omega⟩
def kU : Kd Rn := flat 5 (fun x => (rnc x).toList) (fun _ => rfl) (fun x u hu => by simp at hu; rcases hu with rfl | rfl | rfl | rfl | rfl <;> rfl)
theorem info23 : (Try.prog.info? 23).map (fun i => (i.zero, i.size, i.bytes)) = some (some (.agg zrun), 5, 24) := by kernel_rfl
def RunsP (w : World) (l : List Rn) (e : Ending) (w' : World) : Prop :=
  ∃ A n c, e = .returned (.slice A n c) ∧ ReadsRow RRn 5 w' A n l ∧ Below w.heap.size w w'
theorem minE_hi (S : ByteArray) (en : Int) : minE S en ≤ (S.size : Int) := by
  unfold minE
  have := (endC_is S).hi
  split <;> omega
set_option maxRecDepth 100000 in
set_option maxHeartbeats 8000000 in
theorem runs_c (S : ByteArray) (fr en : Int) (w : World) (hS : S.size ≤ 100000) : Calls Try.prog 15 #[.string S, .int .i64 fr, .int .i64 en] w fun e w' => RunsP w (runsB S fr en) e w' := by
  go_enter Try.func15, Try.ntmps15
  go_upto_region 3 with (fail)
  refine (end_c S w (by omega)).mono ?_
  rintro _ w9 ⟨n0, rfl, hn, h9⟩
  rw [h9]
  clear h9 w9
  obtain rfl := isEnd_uniq hn (endC_is S)
  clear hn
  obtain ⟨E, hE⟩ : ∃ E : Int, (if endC S < en then endC S else en) = E := ⟨_, rfl⟩
  have HE : Aside0 (minE S en = E) := ⟨hE⟩
  have hEs : E ≤ (S.size : Int) := by rw [← hE]; exact minE_hi S en
  have HES := Aside0.mk hEs
  obtain ⟨z0, hz0⟩ : ∃ z : Int, (if fr < 0 then 0 else fr) = z := ⟨_, rfl⟩
  have HZ0 := Aside0.mk hz0
  have hz00 : 0 ≤ z0 := by rw [← hz0]; split <;> omega
  have HZ00 := Aside0.mk hz00
  clear hz00 hEs
  go_upto_block 0 with (fail)
  clear hE hz0
  go_wp2_with (fail)
  go_loopg [7, 9] E.toNat (fun gk v7 v9 wr => ∃ (z : Int) (A : Option Addr) (q c3 : Nat) (l : List Rn), v9 = .int .i64 z ∧ v7 = .slice A q c3 ∧ Aside0 (0 ≤ z ∧ E - z ≤ (gk : Int) ∧ (q : Int) ≤ z) ∧ Aside0 (kU.R 23 wr 0 (fun j => w.heap.size ≤ j) (.slice A q c3) l) ∧ Aside0 (l.length = q) ∧ Aside0 (runsG S fr E E.toNat z0 = l ++ runsG S fr E gk z) ∧ Aside0 (Below w.heap.size w wr))
  case atStart => exact ⟨z0, none, 0, 0, [], rfl, rfl, ⟨⟨HZ00.out, by have := HZ00.out; omega, HZ00.out⟩⟩, ⟨Kd.R_nil _ _ _ _ _⟩, ⟨rfl⟩, ⟨rfl⟩, ⟨Below.refl _ w⟩⟩
  case round =>
    obtain ⟨z, A, q, c3, l, rfl, rfl, HZ, HR, HL, HG, HB⟩ := hrel
    by_cases hzE : z < E
    case neg =>
      have HFIN : Aside0 (runsB S fr en = l) := ⟨by
        unfold runsB
        rw [HE.out, HZ0.out, HG.out, runsG_stop hzE, List.append_nil]⟩
      go_wp2_with (fail)
      go_ret
      exact ⟨A, q, c3, rfl, by rw [HFIN.out]; have h := (Kd.R_reads' HR.out).2.2; rw [HL.out] at h; exact h, HB.out⟩
    case pos =>
      obtain ⟨gn, rfl⟩ : ∃ gn, gk = gn + 1 := ⟨gk - 1, by have := HZ.out; omega⟩
      have HZE := Aside0.mk hzE
      go_upto_region 6 with (fail)
      refine (lookq_c S fr z en wr hS).mono ?_
      rintro _ w4 ⟨r, is, ⟨rfl, hb4⟩, hr⟩
      obtain ⟨hr1, hr2⟩ := hr.uniq (lookB_is S fr z en)
      rw [HE.out] at hr1 hr2
      have HB4 := Aside0.mk hb4
      have HR1 := Aside0.mk hr1
      have HR2 := Aside0.mk hr2
      clear hb4 hr hr1 hr2
      obtain ⟨b, hb⟩ : ∃ q, w4.heap.size = q := ⟨_, rfl⟩
      obtain ⟨w5, hw5⟩ : ∃ q, w4.alloc (.cells zrun 23) = q := ⟨_, rfl⟩
      have hsw5 : w5.heap.size = b + 1 := by rw [← hw5]; simp [hb]
      have hzb : w5.heap[b]? = some (.cells zrun 23 (0, 0)) := by rw [← hw5, ← hb]; exact heap_alloc_new _ _
      have hbb : Below w4.heap.size w4 w5 := by rw [← hw5]; exact below_alloc (Below.refl _ w4) _
      have fzb := fun j => blk_frozen hzb j
      have z0b : w5.cell? ⟨b, 0, none⟩ = some (.int .i64 0) := cell_of_row _ _ _ _ _ _ hzb
      have z1b : w5.cell? ⟨b, 1, none⟩ = some (.int .i64 0) := cell_of_row _ _ _ _ _ _ hzb
      have z2b : w5.cell? ⟨b, 2, none⟩ = some (.int .u8 0) := cell_of_row _ _ _ _ _ _ hzb
      have z3b : w5.cell? ⟨b, 3, none⟩ = some (.bool false) := cell_of_row _ _ _ _ _ _ hzb
      have z4b : w5.cell? ⟨b, 4, none⟩ = some (.bool false) := cell_of_row _ _ _ _ _ _ hzb
      have HZb := Aside0.mk hzb
      have HBb := Aside0.mk hbb
      clear hzb hbb
      go_upto_region 6 with (fail)
      obtain ⟨V, hV⟩ : ∃ q, ((((w5.setCell ⟨b, 0, none⟩ (.int .i64 r.a)).setCell ⟨b, 1, none⟩ (.int .i64 r.n)).setCell ⟨b, 2, none⟩ (.int .u8 r.c)).setCell ⟨b, 3, none⟩ (.bool r.o)).setCell ⟨b, 4, none⟩ (.bool r.k) = q := ⟨_, rfl⟩
      rw [hV]
      have HV : Aside0 (V.heap[b]? = some (.cells (rnc r) 23 (0, 0))) := ⟨by rw [← hV]; exact five_row HZb.out _ _ _ _ _⟩
      have HBV : Aside0 (Below w4.heap.size w4 V) := ⟨by rw [← hV]; exact five_below HBb.out (by omega) _ _ _ _ _⟩
      clear hV hw5 fzb z0b z1b z2b z3b z4b hsw5
      have HRV := Aside0.mk (Kd.R_below HR.out (HB4.out.trans (HBV.out.mono HB4.out.size)))
      have HBV2 : Aside0 (Below w.heap.size w V) := ⟨HB.out.trans ((HB4.out.trans (HBV.out.mono HB4.out.size)).mono HB.out.size)⟩
      have HNB : Aside0 ((Value.slice A q c3).ownBlock ≠ some b) := ⟨fun e => by have h1 := Kd.R_lt HR.out b e; have h2 := HB4.out.size; omega⟩
      cases is
      case false =>
        have hw1 : IntKind.i64.wrap (z + 1) = z + 1 := IntWalk.i64_in _ (by have := HZ.out; have := HES.out; omega)
        have HNX : Aside0 (runsG S fr E E.toNat z0 = l ++ runsG S fr E gn (z + 1)) := ⟨by
          rw [HG.out, runsG_none HZE.out]
          have h := HR2.out
          cases hlb : lookB S fr z E with
          | none => rfl
          | some y => rw [hlb] at h; cases h⟩
        go_wp2_with (fail)
        go_roundg gn
        case measure => exact Nat.lt_succ_self _
        case rel => exact ⟨z + 1, A, q, c3, l, rfl, rfl, ⟨by have := HZ.out; omega⟩, HRV, HL, HNX, HBV2⟩
      case true =>
        have hlb : lookB S fr z E = some r := by
          have h := HR2.out
          have h1 := HR1.out
          cases hlb : lookB S fr z E with
          | none => rw [hlb] at h; cases h
          | some y => rw [hlb] at h1; rw [h1]; rfl
        have hin := lookB_in (en := en) (by rw [HE.out]; exact hlb)
        rw [HE.out] at hin
        have HNX : Aside0 (runsG S fr E E.toNat z0 = (l ++ [r]) ++ runsG S fr E gn (z + r.n)) := ⟨by
          rw [HG.out, runsG_some HZE.out hlb]
          simp⟩
        have HIN := Aside0.mk hin
        have hmx : (if r.n < 1 then 1 else r.n) = r.n := if_neg (by omega)
        have hw1 : IntKind.i64.wrap (z + r.n) = z + r.n := IntWalk.i64_in _ (by have := HES.out; omega)
        have a0 : V.cell? ⟨b, 0, none⟩ = some (.int .i64 r.a) := cell_of_row _ _ _ _ _ _ HV.out
        have a1 : V.cell? ⟨b, 1, none⟩ = some (.int .i64 r.n) := cell_of_row _ _ _ _ _ _ HV.out
        have a2 : V.cell? ⟨b, 2, none⟩ = some (.int .u8 r.c) := cell_of_row _ _ _ _ _ _ HV.out
        have a3 : V.cell? ⟨b, 3, none⟩ = some (.bool r.o) := cell_of_row _ _ _ _ _ _ HV.out
        have a4 : V.cell? ⟨b, 4, none⟩ = some (.bool r.k) := cell_of_row _ _ _ _ _ _ HV.out
        have hq8 : q ≤ 100000 := by have := HZ.out; have := HES.out; have := HZE.out; omega
        clear hlb hin
        go_wp2_with (at_builtin; refine Kd.R_append kU (w0 := V) 0 rfl (.tmp 30) (.tmp 32) 31 23 (.agg zrun) 24 rfl Try.underlying31 info23 rfl (by decide) (by decide) (.slice A q c3) l r (rnc r).toList (fun j => w.heap.size ≤ j) (fun _ => False) rfl rfl rfl (fun _ h => h.elim) (fun j hj => Nat.le_trans HBV2.out.size hj) HRV.out (Below.refl _ _) (Nat.zero_le _) (by rw [HL.out]; omega) ?_; intro v3 w3 hR3 _ hg3 hat3; obtain ⟨A8, c8, hv3, hc3, _⟩ := Kd.R_reads hR3; rw [show (l ++ [r]).length = q + 1 from (by rw [List.length_append, HL.out]; rfl)] at hv3; subst hv3; have HR3 := Aside0.mk hR3; have HB3 : Aside0 (Below w.heap.size w w3) := ⟨HBV2.out.grown hg3 HBV2.out.size (fun j e => HRV.out.1 j e)⟩; have hp3 := (hg3.block b (blk_lt HV.out) HNB.out.symm).trans HV.out; have d1 : w3.cell? ⟨b, 1, none⟩ = some (.int .i64 r.n) := cell_of_row _ _ _ _ _ _ hp3; clear hR3 hg3 hat3 hc3 hp3)
        go_roundg gn
        case measure => exact Nat.lt_succ_self _
        case rel => exact ⟨z + r.n, A8, q + 1, c8, l ++ [r], by simp, rfl, ⟨by have := HZ.out; have := HIN.out; omega⟩, HR3, ⟨by rw [List.length_append, HL.out]; rfl⟩, HNX, HB3⟩
end Go.Proofs.Ytjfpkldknchnkaa.Me
