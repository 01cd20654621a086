/- (*reader).operator: the reader behind it. -/
import Derived.Test.YtdknppomjcpihaaNum
import Derived.Test.YtdknppomjcpihaaBel
import Derived.Test.YtdknppomjcpihaaModel2
import Derived.Deep.DeepCutAuto
namespace Go.Proofs.Ytdknppomjcpihaa.PPy
open Go.RowKit Go.Proofs.YtdknppomjcpihaaW.PrintWords Go.Proofs.YtdknppomjcpihaaW.PrintLast Go.Proofs.YtdknppomjcpihaaW.PrintMore
attribute [local go_sem] max2_int min2_int max_two min_two max_three min_three max_four min_four

/-- The operators from a place of the list on, each with a blank behind. -/
def opTail : List ByteArray → ByteArray
  | [] => ⟨#[]⟩
  | o :: l => ⟨(o.data.toList ++ 32 :: (opTail l).data.toList).toArray⟩

set_option maxRecDepth 100000 in
set_option maxHeartbeats 1000000 in
theorem cut51 (s o t : ByteArray) (hi : Lib.indexByte s.data.toList 32 = (o.size : Int)) (ho : s.extract 0 o.size = o) (ht : s.extract (o.size + 1) s.size = t) (hs : o.size + 1 ≤ s.size) (hz : s.size ≤ 1000) (w : World) :
    Calls Try.prog 51 #[.string s, .string ⟨#[32]⟩] w fun e w' => e = .returned (.tuple #[.string o, .string t, .bool true]) ∧ Drawn0 w w' := by
  obtain ⟨i, hii⟩ : ∃ i : Int, (o.size : Int) = i := ⟨_, rfl⟩
  have ho2 : s.extract 0 i.toNat = o := by rw [← hii]; exact ho
  have ht2 : s.extract (i + 1).toNat s.size = t := by rw [← hii]; exact ht
  have h0 : 0 ≤ i := by omega
  have h1 : i ≤ (s.size : Int) := by omega
  have h2 : 0 ≤ i + 1 := by omega
  have h3 : i + 1 ≤ (s.size : Int) := by omega
  have h4 : i + 1 < 10000 := by omega
  have hd : decide (0 ≤ i) = true := decide_eq_true h0
  rw [hii] at hi
  have HI := Aside0.mk hi
  clear hi hii ho ht
  go_enter Try.func51, Try.ntmps51
  go_wp2_with (fail)
  refine (Try.stringslite_Index_one _ _ _).mono ?_
  rintro _ w1 ⟨rfl, rfl⟩
  rw [HI.out]
  have g0 : 0 ≤ i := h0
  replace h0 := eq_true h0
  replace h1 := eq_true h1
  replace h2 := eq_true h2
  replace h3 := eq_true h3
  go_wp2_with (fail)
  go_quiet (fail)
  go_wp2_with (fail)
  go_ret3
  exact ⟨by rw [← ho2, ← ht2]; rfl, by repeat (first | exact Drawn0.refl _ | apply Drawn0.step)⟩

set_option maxRecDepth 100000 in
set_option maxHeartbeats 1000000 in
theorem cut44 (s o t : ByteArray) (hi : Lib.indexByte s.data.toList 32 = (o.size : Int)) (ho : s.extract 0 o.size = o) (ht : s.extract (o.size + 1) s.size = t) (hs : o.size + 1 ≤ s.size) (hz : s.size ≤ 1000) (w : World) :
    Calls Try.prog 44 #[.string s, .string ⟨#[32]⟩] w fun e w' => e = .returned (.tuple #[.string o, .string t, .bool true]) ∧ Drawn0 w w' := by
  go_enter Try.func44, Try.ntmps44
  go_wp2_with (fail)
  refine (cut51 s o t hi ho ht hs hz _).mono ?_
  rintro _ w1 ⟨rfl, hd⟩
  go_wp2_with (fail)
  go_ret3
  exact ⟨rfl, hd⟩


def opChk (k : Nat) : Bool :=
  decide (Lib.indexByte (opTail (opL.drop k)).data.toList 32 = Int.ofNat (opL.getD k ByteArray.empty).size) &&
  (decide (((opTail (opL.drop k)).extract 0 (opL.getD k ByteArray.empty).size).data.toList = (opL.getD k ByteArray.empty).data.toList) &&
  (decide (((opTail (opL.drop k)).extract ((opL.getD k ByteArray.empty).size + 1) (opTail (opL.drop k)).size).data.toList = (opTail (opL.drop (k + 1))).data.toList) &&
  (decide ((opL.getD k ByteArray.empty).size + 1 ≤ (opTail (opL.drop k)).size) && (decide ((opTail (opL.drop k)).size ≤ 1000) && (!((opTail (opL.drop k)).data.toList == []) && (decide (1 ≤ (opL.getD k ByteArray.empty).size) && decide ((opL.getD k ByteArray.empty).size ≤ 3)))))))
theorem opChk_all : ∀ k : Nat, k < 47 → opChk k = true := by decide +kernel
theorem ext_list {a b : ByteArray} (h : a.data.toList = b.data.toList) : a = b := ByteArray.ext (Array.toList_inj.mp h)
theorem op_cut (k : Nat) (hk : k < 47) (s o t : ByteArray) (hs : opTail (opL.drop k) = s) (ho : opL.getD k ByteArray.empty = o) (ht : opTail (opL.drop (k + 1)) = t) :
    Lib.indexByte s.data.toList 32 = (o.size : Int) ∧ s.extract 0 o.size = o ∧ s.extract (o.size + 1) s.size = t ∧ o.size + 1 ≤ s.size ∧ s.size ≤ 1000 ∧ (s.toList == []) = false ∧ 1 ≤ o.size ∧ o.size ≤ 3 := by
  have h := opChk_all k hk
  unfold opChk at h
  rw [hs, ho, ht] at h
  simp only [Bool.and_eq_true, decide_eq_true_eq, Bool.not_eq_true'] at h
  obtain ⟨h1, h2, h3, h4, h5, h6, h7, h8⟩ := h
  exact ⟨h1, ext_list h2, ext_list h3, h4, h5, by rw [ByteArray.toList_eq]; exact h6, h7, h8⟩
theorem op_drop : ∀ k : Nat, k < 47 → opL.drop k = opL.getD k ByteArray.empty :: opL.drop (k + 1) := by
  intro k hk
  have hl : k < opL.length := hk
  rw [List.drop_eq_getElem_cons hl, List.getD_eq_getElem?_getD, List.getElem?_eq_getElem hl]
  rfl
theorem op_kinds (o : ByteArray) : (opKind o = 1 ∧ (o.toList == [40]) = true) ∨
    (opKind o = 1 ∧ (o.toList == [40]) = false ∧ (o.toList == [91]) = true) ∨
    (opKind o = 1 ∧ (o.toList == [40]) = false ∧ (o.toList == [91]) = false ∧ (o.toList == [123]) = true) ∨
    (opKind o = 2 ∧ (o.toList == [40]) = false ∧ (o.toList == [91]) = false ∧ (o.toList == [123]) = false ∧ (o.toList == [41]) = true) ∨
    (opKind o = 2 ∧ (o.toList == [40]) = false ∧ (o.toList == [91]) = false ∧ (o.toList == [123]) = false ∧ (o.toList == [41]) = false ∧ (o.toList == [93]) = true) ∨
    (opKind o = 2 ∧ (o.toList == [40]) = false ∧ (o.toList == [91]) = false ∧ (o.toList == [123]) = false ∧ (o.toList == [41]) = false ∧ (o.toList == [93]) = false ∧ (o.toList == [125]) = true) ∨
    (opKind o = 0 ∧ (o.toList == [40]) = false ∧ (o.toList == [91]) = false ∧ (o.toList == [123]) = false ∧ (o.toList == [41]) = false ∧ (o.toList == [93]) = false ∧ (o.toList == [125]) = false) := by
  unfold opKind
  cases h1 : (o.toList == [40]) <;> cases h2 : (o.toList == [91]) <;> cases h3 : (o.toList == [123]) <;> cases h4 : (o.toList == [41]) <;> cases h5 : (o.toList == [93]) <;> cases h6 : (o.toList == [125]) <;> simp
theorem opAt_le : ∀ (l : List ByteArray) (q : ByteArray), opAt l q ≤ l.length
  | [], _ => Nat.le_refl _
  | o :: l, q => by
    have := opAt_le l q
    simp only [opAt]
    split <;> simp <;> omega

def opRd (r : Rd) (o : ByteArray) : Rd :=
  if opKind o = 1 then { r with depth := if r.depth + 1 ≤ 1048576 then r.depth + 1 else 1048576 }
  else if opKind o = 2 then (if r.depth = 0 then r else { r with depth := r.depth - 1 }) else r
def opKk (r : Rd) (o : ByteArray) : Int := if opKind o = 2 ∧ r.depth = 0 then 2 else 17
theorem opRd_pos (r : Rd) (o : ByteArray) : (opRd r o).pos = r.pos ∧ (opRd r o).s = r.s ∧ (opRd r o).ev = r.ev := by
  unfold opRd; (repeat' split) <;> exact ⟨rfl, rfl, rfl⟩
theorem oper_eq (r : Rd) (o : ByteArray) : r.oper o = (opRd r o).leaf (opKk r o) (r.pos + (o.size : Int)) := by
  unfold Rd.oper opRd opKk
  by_cases h1 : opKind o = 1
  · have hk : ¬ (opKind o = 2 ∧ r.depth = 0) := fun h => by rw [h1] at h; exact absurd h.1 (by decide)
    rw [if_pos h1, if_pos h1, if_neg hk]
  · rw [if_neg h1, if_neg h1]
    by_cases h2 : opKind o = 2
    · rw [if_pos h2, if_pos h2]
      by_cases h3 : r.depth = 0
      · rw [if_pos h3, if_pos h3, if_pos ⟨h2, h3⟩]
      · rw [if_neg h3, if_neg h3, if_neg (fun h => h3 h.2)]
    · rw [if_neg h2, if_neg h2, if_neg (fun h => h2 h.1)]

set_option maxRecDepth 100000 in
set_option maxHeartbeats 4000000 in
theorem operator_c (B b : Nat) (w : World) (r : Rd) (h : RdAt B w b r) (hl : r.ev.length ≤ 1000000) (h0 : 0 ≤ r.pos) (h1 : r.pos < (r.s.size : Int)) (hs : r.s.size ≤ 1000000) (hd : 0 ≤ r.depth ∧ r.depth ≤ 1048576) :
    Calls Try.prog 25 #[.pointer (some ⟨b, 0, none⟩)] w fun en w' => en = .returned (.bool (decide (opAt opL r.rest < 47))) ∧ RdAt B w' b (if opAt opL r.rest < 47 then r.oper (opOf r.rest) else r) ∧ Below B w w' ∧ (¬ (opAt opL r.rest < 47) → Below w.heap.size w w') := by
  have H := Aside0.mk h
  have hrs : ∀ w', RdAt B w' b r → Calls Try.prog 38 #[.pointer (some ⟨b, 0, none⟩)] w' fun en w'' => en = .returned (.string r.rest) ∧ Drawn0 w' w'' := fun w' h' => rest_c B b w' r h' h0 (by omega)
  have hsz : r.rest.size = r.s.size - r.pos.toNat := by unfold Rd.rest; rw [ByteArray.size_extract]; omega
  have hB := h.1
  have hof : opOf r.rest = opL.getD (opAt opL r.rest) ByteArray.empty := rfl
  obtain ⟨oo, hoo⟩ : ∃ oo, opOf r.rest = oo := ⟨_, rfl⟩
  rw [hoo] at hof ⊢
  obtain ⟨q, hq⟩ : ∃ q, r.rest = q := ⟨_, rfl⟩
  rw [hq] at hsz hrs hof ⊢
  have HRS := Aside0.mk hrs
  have HZ := Aside0.mk (show r.pos + (q.size : Int) ≤ (r.s.size : Int) by omega)
  obtain ⟨T0, hT⟩ : ∃ T0, opAt opL q = T0 := ⟨_, rfl⟩
  rw [hT] at hof ⊢
  have HT := Aside0.mk hT
  have HOF := Aside0.mk hof
  obtain ⟨res, hres⟩ : ∃ res, (if T0 < 47 then r.oper oo else r) = res := ⟨_, rfl⟩
  obtain ⟨mb, hmb⟩ : ∃ mb, decide (T0 < 47) = mb := ⟨_, rfl⟩
  rw [hres, hmb]
  have HRES := Aside0.mk hres
  have HMB := Aside0.mk hmb
  have h47 : opTail (opL.drop 47) = ⟨#[]⟩ := rfl
  have HD := Aside0.mk hd
  clear h hsz hq hT hof hrs hoo hres hmb
  go_enter Try.func25, Try.ntmps25
  go_wp2_with (fail)
  go_loopg [3] 48 (fun g v3 wr => ∃ (k : Nat), v3 = .string (opTail (opL.drop k)) ∧ Aside0 (RdAt B wr b r) ∧ Aside0 (Bel B w wr) ∧ k ≤ 47 ∧ Aside0 (48 - k ≤ g) ∧ Aside0 (T0 = k + opAt (opL.drop k) q))
  case atStart => exact ⟨0, rfl, H, ⟨Bel.refl _ _⟩, by omega, ⟨by omega⟩, ⟨by rw [← HT.out, Nat.zero_add]; rfl⟩⟩
  case round =>
    clear H HT
    obtain ⟨k, rfl, H1, HB, hk, HG, HT⟩ := hrel
    by_cases hk47 : k < 47
    · obtain ⟨g, rfl⟩ : ∃ g, gk = g + 1 := ⟨gk - 1, by have := HG.out; omega⟩
      have HG1 : Aside0 (48 - (k + 1) ≤ g) := ⟨by have := HG.out; omega⟩
      have ht := HT.out
      rw [op_drop k hk47] at ht
      simp only [opAt] at ht
      obtain ⟨lt, hlt⟩ : ∃ lt, opTail (opL.drop k) = lt := ⟨_, rfl⟩
      obtain ⟨lt2, hlt2⟩ : ∃ lt2, opTail (opL.drop (k + 1)) = lt2 := ⟨_, rfl⟩
      obtain ⟨o, ho⟩ : ∃ o, opL.getD k ByteArray.empty = o := ⟨_, rfl⟩
      obtain ⟨e1, e2, e3, e4, e5, e6, e7, e8⟩ := op_cut k hk47 lt o lt2 hlt ho hlt2
      rw [hlt]
      rw [ho] at ht
      have HCUT : Aside0 (∀ w', Calls Try.prog 44 #[.string lt, .string ⟨#[32]⟩] w' fun e w'' => e = .returned (.tuple #[.string o, .string lt2, .bool true]) ∧ Drawn0 w' w'') := ⟨cut44 lt o lt2 e1 e2 e3 e4 e5⟩
      have HO := Aside0.mk ho
      have HLT2 := Aside0.mk hlt2
      have HK := Aside0.mk hk47
      have b1 : (lt.toList != []) = true := by rw [bne, e6]; rfl
      have b2 : (lt.toList = []) = False := eq_false (beq_eq_false_iff_ne.mp e6)
      clear hlt hlt2 e1 e2 e3 e4 e5 HT ho hk47
      cases hv : hp q o with
      | true =>
        rw [hv, if_pos rfl] at ht
        have HT := Aside0.mk ht
        have hle := hp_le hv
        have HV := Aside0.mk hv
        clear ht hv
        go_upto_region 6 with (fail)
        refine (HCUT.out _).mono ?_
        rintro _ w1 ⟨rfl, hd⟩
        have H2 := Aside0.mk (H1.out.drawn hd)
        have HB2 := Aside0.mk (HB.out.trans (drawn_below hd))
        clear hd H1 HB
        go_upto_region 6 with (fail)
        refine (HRS.out _ H2.out).mono ?_
        rintro _ w2 ⟨rfl, hd⟩
        have H3 := Aside0.mk (H2.out.drawn hd)
        have HB3 := Aside0.mk (HB2.out.trans (drawn_below hd))
        clear hd H2 HB2
        go_upto_region 6 with (fail)
        refine (hp_c q o _).mono ?_
        rintro _ w3 ⟨rfl, hd⟩
        rw [HV.out]
        have H4 := Aside0.mk (H3.out.drawn hd)
        have HB4 := Aside0.mk (HB3.out.trans (drawn_below hd))
        clear hd H3 HB3
        have HB5 := Aside0.mk HB4.out.1
        clear HB4
        have HB4 := HB5
        clear HB5
        go_upto_block 2 with (fail)
        go_cut [5] (fun v wc => v = .int .u8 (opKk r o) ∧ Aside0 (RdAt B wc b (opRd r o)) ∧ Aside0 (Below B w wc))
        case first =>
          obtain ⟨A, c, hr, hh, c0, c1, c2, c3, c4, c5, c6, c7, hf⟩ := H4.out.open
          have hd := HD.out
          have hkinds := op_kinds o
          clear hr hh
          rcases hkinds with ⟨hok, d0⟩ | ⟨hok, d0, d1⟩ | ⟨hok, d0, d1, d2⟩ | ⟨hok, d0, d1, d2, d3⟩ | ⟨hok, d0, d1, d2, d3, d4⟩ | ⟨hok, d0, d1, d2, d3, d4, d5⟩ | ⟨hok, d0, d1, d2, d3, d4, d5⟩
          · have n0 : (o.toList != [40]) = false := by rw [bne, d0]; rfl
            have p0 : (o.toList = [40]) = True := eq_true (beq_iff_eq.mp d0)
            have HK2 : Aside0 (opKk r o = 17) := ⟨by unfold opKk; rw [hok]; rfl⟩
            have HR2 : Aside0 (opRd r o = { r with depth := if r.depth + 1 ≤ 1048576 then r.depth + 1 else 1048576 }) := ⟨by unfold opRd; rw [if_pos hok]⟩
            clear hok
            by_cases hm : r.depth + 1 ≤ 1048576
            · have hmb2 : (r.depth + 1 ≤ 1048576) = True := eq_true hm
              have hmb3 : decide (1048576 < r.depth + 1) = false := decide_eq_false (by omega)
              replace HR2 : Aside0 (opRd r o = { r with depth := r.depth + 1 }) := ⟨by rw [HR2.out, if_pos hm]⟩
              have HM := Aside0.mk hm
              clear hm hmb2 hmb3
              go_wp2_with (fail)
              any_goals (exfalso; have := HM.out; omega)
              go_meet
              case rel => exact ⟨congrArg (Value.int .u8) HK2.out.symm, ⟨by rw [HR2.out]; exact H4.out.setDepth _⟩, ⟨HB4.out.setCell (p := ⟨b, 4, none⟩) hB _⟩⟩
            · have hmb2 : (r.depth + 1 ≤ 1048576) = False := eq_false hm
              have hmb3 : decide (1048576 < r.depth + 1) = true := decide_eq_true (by omega)
              replace HR2 : Aside0 (opRd r o = { r with depth := 1048576 }) := ⟨by rw [HR2.out, if_neg hm]⟩
              have HM := Aside0.mk hm
              clear hm hmb2 hmb3
              go_wp2_with (fail)
              any_goals (exfalso; have := HM.out; omega)
              go_meet
              case rel => exact ⟨congrArg (Value.int .u8) HK2.out.symm, ⟨by rw [HR2.out]; exact H4.out.setDepth _⟩, ⟨HB4.out.setCell (p := ⟨b, 4, none⟩) hB _⟩⟩
          · have n0 : (o.toList != [40]) = true := by rw [bne, d0]; rfl
            have p0 : (o.toList = [40]) = False := eq_false (beq_eq_false_iff_ne.mp d0)
            have n1 : (o.toList != [91]) = false := by rw [bne, d1]; rfl
            have p1 : (o.toList = [91]) = True := eq_true (beq_iff_eq.mp d1)
            have HK2 : Aside0 (opKk r o = 17) := ⟨by unfold opKk; rw [hok]; rfl⟩
            have HR2 : Aside0 (opRd r o = { r with depth := if r.depth + 1 ≤ 1048576 then r.depth + 1 else 1048576 }) := ⟨by unfold opRd; rw [if_pos hok]⟩
            clear hok
            by_cases hm : r.depth + 1 ≤ 1048576
            · have hmb2 : (r.depth + 1 ≤ 1048576) = True := eq_true hm
              have hmb3 : decide (1048576 < r.depth + 1) = false := decide_eq_false (by omega)
              replace HR2 : Aside0 (opRd r o = { r with depth := r.depth + 1 }) := ⟨by rw [HR2.out, if_pos hm]⟩
              have HM := Aside0.mk hm
              clear hm hmb2 hmb3
              go_wp2_with (fail)
              any_goals (exfalso; have := HM.out; omega)
              go_meet
              case rel => exact ⟨congrArg (Value.int .u8) HK2.out.symm, ⟨by rw [HR2.out]; exact H4.out.setDepth _⟩, ⟨HB4.out.setCell (p := ⟨b, 4, none⟩) hB _⟩⟩
            · have hmb2 : (r.depth + 1 ≤ 1048576) = False := eq_false hm
              have hmb3 : decide (1048576 < r.depth + 1) = true := decide_eq_true (by omega)
              replace HR2 : Aside0 (opRd r o = { r with depth := 1048576 }) := ⟨by rw [HR2.out, if_neg hm]⟩
              have HM := Aside0.mk hm
              clear hm hmb2 hmb3
              go_wp2_with (fail)
              any_goals (exfalso; have := HM.out; omega)
              go_meet
              case rel => exact ⟨congrArg (Value.int .u8) HK2.out.symm, ⟨by rw [HR2.out]; exact H4.out.setDepth _⟩, ⟨HB4.out.setCell (p := ⟨b, 4, none⟩) hB _⟩⟩
          · have n0 : (o.toList != [40]) = true := by rw [bne, d0]; rfl
            have p0 : (o.toList = [40]) = False := eq_false (beq_eq_false_iff_ne.mp d0)
            have n1 : (o.toList != [91]) = true := by rw [bne, d1]; rfl
            have p1 : (o.toList = [91]) = False := eq_false (beq_eq_false_iff_ne.mp d1)
            have n2 : (o.toList != [123]) = false := by rw [bne, d2]; rfl
            have p2 : (o.toList = [123]) = True := eq_true (beq_iff_eq.mp d2)
            have HK2 : Aside0 (opKk r o = 17) := ⟨by unfold opKk; rw [hok]; rfl⟩
            have HR2 : Aside0 (opRd r o = { r with depth := if r.depth + 1 ≤ 1048576 then r.depth + 1 else 1048576 }) := ⟨by unfold opRd; rw [if_pos hok]⟩
            clear hok
            by_cases hm : r.depth + 1 ≤ 1048576
            · have hmb2 : (r.depth + 1 ≤ 1048576) = True := eq_true hm
              have hmb3 : decide (1048576 < r.depth + 1) = false := decide_eq_false (by omega)
              replace HR2 : Aside0 (opRd r o = { r with depth := r.depth + 1 }) := ⟨by rw [HR2.out, if_pos hm]⟩
              have HM := Aside0.mk hm
              clear hm hmb2 hmb3
              go_wp2_with (fail)
              any_goals (exfalso; have := HM.out; omega)
              go_meet
              case rel => exact ⟨congrArg (Value.int .u8) HK2.out.symm, ⟨by rw [HR2.out]; exact H4.out.setDepth _⟩, ⟨HB4.out.setCell (p := ⟨b, 4, none⟩) hB _⟩⟩
            · have hmb2 : (r.depth + 1 ≤ 1048576) = False := eq_false hm
              have hmb3 : decide (1048576 < r.depth + 1) = true := decide_eq_true (by omega)
              replace HR2 : Aside0 (opRd r o = { r with depth := 1048576 }) := ⟨by rw [HR2.out, if_neg hm]⟩
              have HM := Aside0.mk hm
              clear hm hmb2 hmb3
              go_wp2_with (fail)
              any_goals (exfalso; have := HM.out; omega)
              go_meet
              case rel => exact ⟨congrArg (Value.int .u8) HK2.out.symm, ⟨by rw [HR2.out]; exact H4.out.setDepth _⟩, ⟨HB4.out.setCell (p := ⟨b, 4, none⟩) hB _⟩⟩
          · have n0 : (o.toList != [40]) = true := by rw [bne, d0]; rfl
            have p0 : (o.toList = [40]) = False := eq_false (beq_eq_false_iff_ne.mp d0)
            have n1 : (o.toList != [91]) = true := by rw [bne, d1]; rfl
            have p1 : (o.toList = [91]) = False := eq_false (beq_eq_false_iff_ne.mp d1)
            have n2 : (o.toList != [123]) = true := by rw [bne, d2]; rfl
            have p2 : (o.toList = [123]) = False := eq_false (beq_eq_false_iff_ne.mp d2)
            have n3 : (o.toList != [41]) = false := by rw [bne, d3]; rfl
            have p3 : (o.toList = [41]) = True := eq_true (beq_iff_eq.mp d3)
            have HOK := Aside0.mk hok
            clear hok
            by_cases hm : r.depth = 0
            · have hmb2 : (r.depth == 0) = true := beq_iff_eq.mpr hm
              have HK2 : Aside0 (opKk r o = 2) := ⟨by unfold opKk; rw [HOK.out, if_pos ⟨rfl, hm⟩]⟩
              have HR2 : Aside0 (opRd r o = r) := ⟨by unfold opRd; rw [HOK.out, if_neg (by decide), if_pos rfl, if_pos hm]⟩
              clear hm
              go_wp2_with (fail)
              go_meet
              case rel => exact ⟨congrArg (Value.int .u8) HK2.out.symm, ⟨by rw [HR2.out]; exact H4.out⟩, HB4⟩
            · have hmb2 : (r.depth == 0) = false := beq_eq_false_iff_ne.mpr hm
              have HK2 : Aside0 (opKk r o = 17) := ⟨by unfold opKk; rw [if_neg (fun h => hm h.2)]⟩
              have HR2 : Aside0 (opRd r o = { r with depth := r.depth - 1 }) := ⟨by unfold opRd; rw [HOK.out, if_neg (by decide), if_pos rfl, if_neg hm]⟩
              go_wp2_with (fail)
              go_meet
              case rel => exact ⟨congrArg (Value.int .u8) HK2.out.symm, ⟨by rw [HR2.out]; exact H4.out.setDepth _⟩, ⟨HB4.out.setCell (p := ⟨b, 4, none⟩) hB _⟩⟩
          · have n0 : (o.toList != [40]) = true := by rw [bne, d0]; rfl
            have p0 : (o.toList = [40]) = False := eq_false (beq_eq_false_iff_ne.mp d0)
            have n1 : (o.toList != [91]) = true := by rw [bne, d1]; rfl
            have p1 : (o.toList = [91]) = False := eq_false (beq_eq_false_iff_ne.mp d1)
            have n2 : (o.toList != [123]) = true := by rw [bne, d2]; rfl
            have p2 : (o.toList = [123]) = False := eq_false (beq_eq_false_iff_ne.mp d2)
            have n3 : (o.toList != [41]) = true := by rw [bne, d3]; rfl
            have p3 : (o.toList = [41]) = False := eq_false (beq_eq_false_iff_ne.mp d3)
            have n4 : (o.toList != [93]) = false := by rw [bne, d4]; rfl
            have p4 : (o.toList = [93]) = True := eq_true (beq_iff_eq.mp d4)
            have HOK := Aside0.mk hok
            clear hok
            by_cases hm : r.depth = 0
            · have hmb2 : (r.depth == 0) = true := beq_iff_eq.mpr hm
              have HK2 : Aside0 (opKk r o = 2) := ⟨by unfold opKk; rw [HOK.out, if_pos ⟨rfl, hm⟩]⟩
              have HR2 : Aside0 (opRd r o = r) := ⟨by unfold opRd; rw [HOK.out, if_neg (by decide), if_pos rfl, if_pos hm]⟩
              clear hm
              go_wp2_with (fail)
              go_meet
              case rel => exact ⟨congrArg (Value.int .u8) HK2.out.symm, ⟨by rw [HR2.out]; exact H4.out⟩, HB4⟩
            · have hmb2 : (r.depth == 0) = false := beq_eq_false_iff_ne.mpr hm
              have HK2 : Aside0 (opKk r o = 17) := ⟨by unfold opKk; rw [if_neg (fun h => hm h.2)]⟩
              have HR2 : Aside0 (opRd r o = { r with depth := r.depth - 1 }) := ⟨by unfold opRd; rw [HOK.out, if_neg (by decide), if_pos rfl, if_neg hm]⟩
              go_wp2_with (fail)
              go_meet
              case rel => exact ⟨congrArg (Value.int .u8) HK2.out.symm, ⟨by rw [HR2.out]; exact H4.out.setDepth _⟩, ⟨HB4.out.setCell (p := ⟨b, 4, none⟩) hB _⟩⟩
          · have n0 : (o.toList != [40]) = true := by rw [bne, d0]; rfl
            have p0 : (o.toList = [40]) = False := eq_false (beq_eq_false_iff_ne.mp d0)
            have n1 : (o.toList != [91]) = true := by rw [bne, d1]; rfl
            have p1 : (o.toList = [91]) = False := eq_false (beq_eq_false_iff_ne.mp d1)
            have n2 : (o.toList != [123]) = true := by rw [bne, d2]; rfl
            have p2 : (o.toList = [123]) = False := eq_false (beq_eq_false_iff_ne.mp d2)
            have n3 : (o.toList != [41]) = true := by rw [bne, d3]; rfl
            have p3 : (o.toList = [41]) = False := eq_false (beq_eq_false_iff_ne.mp d3)
            have n4 : (o.toList != [93]) = true := by rw [bne, d4]; rfl
            have p4 : (o.toList = [93]) = False := eq_false (beq_eq_false_iff_ne.mp d4)
            have n5 : (o.toList != [125]) = false := by rw [bne, d5]; rfl
            have p5 : (o.toList = [125]) = True := eq_true (beq_iff_eq.mp d5)
            have HOK := Aside0.mk hok
            clear hok
            by_cases hm : r.depth = 0
            · have hmb2 : (r.depth == 0) = true := beq_iff_eq.mpr hm
              have HK2 : Aside0 (opKk r o = 2) := ⟨by unfold opKk; rw [HOK.out, if_pos ⟨rfl, hm⟩]⟩
              have HR2 : Aside0 (opRd r o = r) := ⟨by unfold opRd; rw [HOK.out, if_neg (by decide), if_pos rfl, if_pos hm]⟩
              clear hm
              go_wp2_with (fail)
              go_meet
              case rel => exact ⟨congrArg (Value.int .u8) HK2.out.symm, ⟨by rw [HR2.out]; exact H4.out⟩, HB4⟩
            · have hmb2 : (r.depth == 0) = false := beq_eq_false_iff_ne.mpr hm
              have HK2 : Aside0 (opKk r o = 17) := ⟨by unfold opKk; rw [if_neg (fun h => hm h.2)]⟩
              have HR2 : Aside0 (opRd r o = { r with depth := r.depth - 1 }) := ⟨by unfold opRd; rw [HOK.out, if_neg (by decide), if_pos rfl, if_neg hm]⟩
              go_wp2_with (fail)
              go_meet
              case rel => exact ⟨congrArg (Value.int .u8) HK2.out.symm, ⟨by rw [HR2.out]; exact H4.out.setDepth _⟩, ⟨HB4.out.setCell (p := ⟨b, 4, none⟩) hB _⟩⟩
          · have n0 : (o.toList != [40]) = true := by rw [bne, d0]; rfl
            have p0 : (o.toList = [40]) = False := eq_false (beq_eq_false_iff_ne.mp d0)
            have n1 : (o.toList != [91]) = true := by rw [bne, d1]; rfl
            have p1 : (o.toList = [91]) = False := eq_false (beq_eq_false_iff_ne.mp d1)
            have n2 : (o.toList != [123]) = true := by rw [bne, d2]; rfl
            have p2 : (o.toList = [123]) = False := eq_false (beq_eq_false_iff_ne.mp d2)
            have n3 : (o.toList != [41]) = true := by rw [bne, d3]; rfl
            have p3 : (o.toList = [41]) = False := eq_false (beq_eq_false_iff_ne.mp d3)
            have n4 : (o.toList != [93]) = true := by rw [bne, d4]; rfl
            have p4 : (o.toList = [93]) = False := eq_false (beq_eq_false_iff_ne.mp d4)
            have n5 : (o.toList != [125]) = true := by rw [bne, d5]; rfl
            have p5 : (o.toList = [125]) = False := eq_false (beq_eq_false_iff_ne.mp d5)
            have HK2 : Aside0 (opKk r o = 17) := ⟨by unfold opKk; rw [hok]; rfl⟩
            have HR2 : Aside0 (opRd r o = r) := ⟨by unfold opRd; rw [hok, if_neg (by decide), if_neg (by decide)]⟩
            clear hok
            go_wp2_with (fail)
            go_meet
            case rel => exact ⟨congrArg (Value.int .u8) HK2.out.symm, ⟨by rw [HR2.out]; exact H4.out⟩, HB4⟩
        case rest =>
          clear H4 HB4
          obtain ⟨rfl, H1, HB⟩ := hcut
          obtain ⟨rp, rs, re⟩ := opRd_pos r o
          have HOE := Aside0.mk (oper_eq r o)
          obtain ⟨kk, hkk⟩ : ∃ kk, opKk r o = kk := ⟨_, rfl⟩
          obtain ⟨r2, hr2⟩ : ∃ r2, opRd r o = r2 := ⟨_, rfl⟩
          have hoe := HOE.out
          rw [hkk, hr2] at hoe
          rw [hr2] at H1 rp rs re
          rw [hkk]
          have HOE2 := Aside0.mk hoe
          have hto : Aside0 (r.pos + (o.size : Int) ≤ (r2.s.size : Int)) := ⟨by rw [rs]; have := HZ.out; omega⟩
          have hto2 : r.pos + (o.size : Int) ≤ (r.s.size : Int) := by have := HZ.out; omega
          have hfr : Aside0 (r2.pos ≤ r.pos + (o.size : Int)) := ⟨by rw [rp]; omega⟩
          have hp0 : Aside0 (0 ≤ r2.pos) := ⟨by rw [rp]; exact h0⟩
          have hl2 : Aside0 (r2.ev.length ≤ 1000000) := ⟨by rw [re]; exact hl⟩
          obtain ⟨A, c, hr, hh, c0, c1, c2, c3, c4, c5, c6, c7, hf⟩ := H1.out.open
          rw [rp] at c1
          clear hr hh hkk hr2 hoe rp rs re HOE
          go_wp2_with (fail)
          refine (leaf_c B b _ r2 kk (r.pos + (o.size : Int)) H1.out hl2.out hp0.out hfr.out hto.out).mono ?_
          rintro _ w8 ⟨rfl, H5, hb5⟩
          have H6 := Aside0.mk H5
          have HB6 := Aside0.mk (HB.out.trans hb5)
          clear H5 hb5
          go_wp2_with (fail)
          go_ret
          have e0 : T0 = k := by have := HT.out; omega
          have hk2 := HK.out
          have e1 : mb = true := by rw [← HMB.out]; exact decide_eq_true (by omega)
          have e2 : res = r2.leaf kk (r.pos + (o.size : Int)) := by rw [← HRES.out, if_pos (by omega), HOF.out, e0, HO.out, HOE2.out]
          rw [e1, e2]
          have hpos : T0 < 47 := by omega
          exact ⟨rfl, H6.out, HB6.out, fun h => absurd hpos h⟩
      | false =>
        rw [hv, if_neg (by simp)] at ht
        have HT : Aside0 (T0 = (k + 1) + opAt (opL.drop (k + 1)) q) := ⟨by omega⟩
        have HV := Aside0.mk hv
        clear ht hv
        go_wp2_with (fail)
        refine (HCUT.out _).mono ?_
        rintro _ w1 ⟨rfl, hd⟩
        have H2 := Aside0.mk (H1.out.drawn hd)
        have HB2 := Aside0.mk (HB.out.trans (drawn_below hd))
        clear hd H1 HB
        go_wp2_with (fail)
        refine (HRS.out _ H2.out).mono ?_
        rintro _ w2 ⟨rfl, hd⟩
        have H3 := Aside0.mk (H2.out.drawn hd)
        have HB3 := Aside0.mk (HB2.out.trans (drawn_below hd))
        clear hd H2 HB2
        go_wp2_with (fail)
        refine (hp_c q o _).mono ?_
        rintro _ w3 ⟨rfl, hd⟩
        rw [HV.out]
        have H4 := Aside0.mk (H3.out.drawn hd)
        have HB4 := Aside0.mk (HB3.out.trans (drawn_below hd))
        clear hd H3 HB3
        go_wp2_with (fail)
        go_roundg g
        case measure => exact Nat.lt_succ_self _
        case rel => exact ⟨k + 1, by rw [HLT2.out], H4, HB4, by have := HK.out; omega, HG1, HT⟩
    · obtain rfl : k = 47 := by omega
      rw [h47]
      have HM3 : Aside0 (T0 = 47) := ⟨by have := HT.out; rw [this]; rfl⟩
      clear HT HG
      go_wp2_with (fail)
      go_ret
      have hm0 := HM3.out
      have e1 : mb = false := by rw [← HMB.out]; exact decide_eq_false (by omega)
      have e2 : res = r := by rw [← HRES.out, if_neg (by omega)]
      rw [e1, e2]
      exact ⟨rfl, H1.out, HB.out.1, fun _ => HB.out.2⟩

end Go.Proofs.Ytdknppomjcpihaa.PPy
