/- The document's Scan: texts. -/
import Derived.Test.YtdknppomjcpihaaRefQ
namespace Go.Proofs.Ytdknppomjcpihaa.PPy
open Go.RowKit Go.Proofs.YtdknppomjcpihaaW.PrintWords Go.Proofs.YtdknppomjcpihaaW.PrintLast Go.Proofs.YtdknppomjcpihaaW.PrintMore
attribute [local go_sem] max2_int min2_int max_two min_two max_three min_three max_four min_four
set_option linter.unusedVariables false

set_option maxRecDepth 100000 in
set_option maxHeartbeats 4000000 in
theorem ref_beg (u17 u18 u19 u20 u21 u22 u23 u24 u25 u26 u27 u28 u29 u30 u31 u32 u33 u34 u35 u53 u54 u55 u56 u57 u58 u59 u60 u61 u62 u63 u64 u65 u66 u67 u68 u69 u70 u71 u72 u73 u74 u75 u76 u77 u78 u79 u80 u81 u82 u83 u84 u85 u86 u87 u88 u89 u90 u91 u92 u93 u94 u95 u96 u97 u98 u99 u100 u101 u102 u103 u104 u105 u106 u107 u108 u109 u110 u111 u112 u113 u114 u115 u116 u117 u118 u119 u120 u121 u122 u123 u124 u125 u126 u127 u128 u129 u130 u131 u132 u133 u134 u135 u136 u137 u138 u139 u140 u141 u142 u143 u144 u145 u146 u147 u148 u149 u150 u151 u152 u153 u154 u155 u156 u157 u158 u159 u160 u161 u162 u163 u164 u165 u166 u167 u168 u169 u170 u171 u172 u173 u174 u175 u176 u177 u178 u179 u180 u181 u182 u183 u184 u185 u186 u187 u188 u189 u190 u191 u192 u193 u194 u195 u196 u197 u198 u199 u200 u201 u202 u203 u204 u205 u206 u207 u208 u209 u210 u211 u212 u213 u214 u215 u216 u217 u218 u219 u220 u221 u222 u223 u224 u225 u226 u227 u228 u229 u230 u231 u232 u233 u234 u235 u236 u237 u238 u239 u240 u241 u242 u243 u244 u245 u246 u247 u248 u249 u250 u251 u252 u253 u254 u255 u256 u257 u258 u259 u260 u261 : Value) (line : ByteArray) (pos mark depth : Int) (w : World) (L : ByteArray) (g : Nat) (W1 : World) (r0 r : Rd)
    (HOK : Aside0 r.Ok) (HS : Aside0 (r.s = L)) (hp0 : 0 ≤ r.pos) (hlt : r.pos < (L.size : Int)) (hLz : L.size ≤ 1000000) (q : ByteArray) (M be : Int)
    (HM : Aside0 (begM q = M)) (HBE : Aside0 ((if M = 0 then 0 else r.pos + begN 3 q 0 + ((quot M).size : Int)) = be)) (HQ : Aside0 (L.extract r.pos.toNat L.size = q)) (ch : Int)
    (hx : ∀ (h : r.pos.toNat < L.size), ((L[r.pos.toNat]'h).toNat : Int) = ch) (HCH : Aside0 (bt L r.pos = ch)) (hpq : (0 ≤ r.pos) = True) (hlq : (r.pos < (L.size : Int)) = True) (w2 : World)
    (H2 : Aside0 (OutAt g w2 g r)) (HB2 : Aside0 (Below g W1 w2)) (HBL : Aside0 (¬(r.mark = 0 ∧ (ch = 32 ∨ ch = 9 ∨ ch = 12 ∨ ch = 13))))
    (J K' : Act → World → Prop) (hJ : ∀ (a' : Act) (w' : World), (∃ u11 u13 u14 u16 u17 u18 u19 u38 u39 u40 u41 u42 u43 u44 u45 u46 u47 u48 u49 u50 u51 u52 u53 u54 u55 u56 u57 u58 u59 u60 u61 u62 u63 u64 u65 u66 u67 u68 u69 u70 u71 u72 u73 u74 u75 u76 u77 u78 u79 u80 u81 u82 u83 u84 u85 u86 u87 u88 u89 u90 u91 u92 u93 u94 u95 u96 u97 u98 u99 u100 u101 u102 u103 u104 u105 u106 u107 u108 u109 u110 u111 u112 u113 u114 u115 u116 u117 u118 u119 u120 u121 u122 u123 u124 u125 u126 u127 u128 u129 u130 u131 u132 u133 u134 u135 u136 u137 u138 u139 u140 u141 u142 u143 u144 u145 u146 u147 u148 u149 u150 u151 u152 u153 u154 u155 u156 u157 u158 u159 u160 u161 u162 u163 u164 u165 u166 u167 u168 u169 u170 u171 u172 u173 u174 u175 u176 u177 u178 u179 u180 u181 u182 u183 u184 u185 u186 u187 u188 u189 u190 u191 u192 u193 u194 u195 u196 u197 u198 u199 u200 u201 u202 u203 u204 u205 u206 u207 u208 u209 u210 u211 u212 u213 u214 u215 u216 u217 u218 u219 u220 u221 u222 u223 u224 u225 u226 u227 u228 u229 u230 u231 u232 u233 u234 u235 u236 u237 u238 u239 u240 u241 u242 u243 u244 u245 u246 u247 u248 u249 u250 u251 u252 u253 u254 u255 u256 u257 u258 u259 u260, (∃ r2 K T, u11 = Value.int IntKind.i64 r.pos ∧ u13 = Value.int IntKind.u8 K ∧ u14 = Value.int IntKind.i64 T ∧ Aside0 (OutAt g w' g r2) ∧ Aside0 (Below g W1 w') ∧ Aside0 (r.step = r2.leaf K T) ∧ Aside0 (r2.s = r.s ∧ r2.pos = r.pos ∧ r2.ev = r.ev) ∧ 0 ≤ T ∧ T ≤ ↑L.size) ∧ a' = { tmps := List.toArray (Value.string line :: Value.int IntKind.i64 pos :: Value.int IntKind.u8 mark :: Value.int IntKind.i64 depth :: undef :: undef :: undef :: undef :: Value.pointer (some { block := w.heap.size, off := 0 }) :: Value.string L :: Value.pointer (some { block := g, off := 0 }) :: u11 :: Value.int IntKind.u8 ch :: u13 :: u14 :: Value.int IntKind.u8 M :: u16 :: u17 :: u18 :: u19 :: u20 :: u21 :: u22 :: u23 :: u24 :: u25 :: u26 :: u27 :: u28 :: u29 :: u30 :: u31 :: u32 :: u33 :: u34 :: u35 :: Value.int IntKind.i64 pos :: Value.int IntKind.i64 r0.pos :: u38 :: u39 :: u40 :: u41 :: u42 :: u43 :: u44 :: u45 :: u46 :: u47 :: u48 :: u49 :: u50 :: u51 :: u52 :: u53 :: u54 :: u55 :: u56 :: u57 :: u58 :: u59 :: u60 :: u61 :: u62 :: u63 :: u64 :: u65 :: u66 :: u67 :: u68 :: u69 :: u70 :: u71 :: u72 :: u73 :: u74 :: u75 :: u76 :: u77 :: u78 :: u79 :: u80 :: u81 :: u82 :: u83 :: u84 :: u85 :: u86 :: u87 :: u88 :: u89 :: u90 :: u91 :: u92 :: u93 :: u94 :: u95 :: u96 :: u97 :: u98 :: u99 :: u100 :: u101 :: u102 :: u103 :: u104 :: u105 :: u106 :: u107 :: u108 :: u109 :: u110 :: u111 :: u112 :: u113 :: u114 :: u115 :: u116 :: u117 :: u118 :: u119 :: u120 :: u121 :: u122 :: u123 :: u124 :: u125 :: u126 :: u127 :: u128 :: u129 :: u130 :: u131 :: u132 :: u133 :: u134 :: u135 :: u136 :: u137 :: u138 :: u139 :: u140 :: u141 :: u142 :: u143 :: u144 :: u145 :: u146 :: u147 :: u148 :: u149 :: u150 :: u151 :: u152 :: u153 :: u154 :: u155 :: u156 :: u157 :: u158 :: u159 :: u160 :: u161 :: u162 :: u163 :: u164 :: u165 :: u166 :: u167 :: u168 :: u169 :: u170 :: u171 :: u172 :: u173 :: u174 :: u175 :: u176 :: u177 :: u178 :: u179 :: u180 :: u181 :: u182 :: u183 :: u184 :: u185 :: u186 :: u187 :: u188 :: u189 :: u190 :: u191 :: u192 :: u193 :: u194 :: u195 :: u196 :: u197 :: u198 :: u199 :: u200 :: u201 :: u202 :: u203 :: u204 :: u205 :: u206 :: u207 :: u208 :: u209 :: u210 :: u211 :: u212 :: u213 :: u214 :: u215 :: u216 :: u217 :: u218 :: u219 :: u220 :: u221 :: u222 :: u223 :: u224 :: u225 :: u226 :: u227 :: u228 :: u229 :: u230 :: u231 :: u232 :: u233 :: u234 :: u235 :: u236 :: u237 :: u238 :: u239 :: u240 :: u241 :: u242 :: u243 :: u244 :: u245 :: u246 :: u247 :: u248 :: u249 :: u250 :: u251 :: u252 :: u253 :: u254 :: u255 :: u256 :: u257 :: u258 :: u259 :: u260 :: u261 :: []), defers := [] }) → J a' w') (hK : ∀ (a' : Act) (w' : World), Met J a' w' → K' a' w') (Qr : Exit → Act → World → Prop)
    (hmk : r.mark = 0) (c35 : ¬ ch = 35) (c92 : ¬ ch = 92) (hM : ¬ M = 0) (C : Code) (hC : C = ((findB 2 ((Try.f11.body).getD .skip)).getD .skip)) : Code.wp Try.prog C (Exit.then K' Qr) { tmps := List.toArray (Value.string line :: Value.int IntKind.i64 pos :: Value.int IntKind.u8 mark :: Value.int IntKind.i64 depth :: undef :: undef :: undef :: undef :: Value.pointer (some { block := w.heap.size, off := 0 }) :: Value.string L :: Value.pointer (some { block := g, off := 0 }) :: Value.int IntKind.i64 r.pos :: Value.int IntKind.u8 ch :: Value.int IntKind.u8 2 :: Value.int IntKind.i64 (r.pos + 1) :: Value.int IntKind.u8 M :: Value.int IntKind.i64 be :: u17 :: u18 :: u19 :: u20 :: u21 :: u22 :: u23 :: u24 :: u25 :: u26 :: u27 :: u28 :: u29 :: u30 :: u31 :: u32 :: u33 :: u34 :: u35 :: Value.int IntKind.i64 pos :: Value.int IntKind.i64 r0.pos :: Value.int IntKind.i64 r.pos :: Value.string L :: Value.int IntKind.i64 ↑L.size :: Value.bool true :: Value.string L :: Value.int IntKind.i64 r.pos :: Value.int IntKind.u8 ch :: Value.int IntKind.i64 r.pos :: Value.int IntKind.i64 (r.pos + 1) :: Value.tuple #[Value.int IntKind.u8 M, Value.int IntKind.i64 be] :: Value.string L :: Value.int IntKind.i64 r.pos :: Value.tuple #[Value.int IntKind.u8 M, Value.int IntKind.i64 be] :: Value.int IntKind.u8 M :: Value.int IntKind.i64 be :: u53 :: u54 :: u55 :: u56 :: u57 :: u58 :: u59 :: u60 :: u61 :: u62 :: u63 :: u64 :: u65 :: u66 :: u67 :: u68 :: u69 :: u70 :: u71 :: u72 :: u73 :: u74 :: u75 :: u76 :: u77 :: u78 :: u79 :: u80 :: u81 :: u82 :: u83 :: u84 :: u85 :: u86 :: u87 :: u88 :: u89 :: u90 :: u91 :: u92 :: u93 :: u94 :: u95 :: u96 :: u97 :: u98 :: u99 :: u100 :: u101 :: u102 :: u103 :: u104 :: u105 :: u106 :: u107 :: u108 :: u109 :: u110 :: u111 :: u112 :: u113 :: u114 :: u115 :: u116 :: u117 :: u118 :: u119 :: u120 :: u121 :: u122 :: u123 :: u124 :: u125 :: u126 :: u127 :: u128 :: u129 :: u130 :: u131 :: u132 :: u133 :: u134 :: u135 :: u136 :: u137 :: u138 :: u139 :: u140 :: u141 :: u142 :: u143 :: u144 :: u145 :: u146 :: u147 :: u148 :: u149 :: u150 :: u151 :: u152 :: u153 :: u154 :: u155 :: u156 :: u157 :: u158 :: u159 :: u160 :: u161 :: u162 :: u163 :: u164 :: u165 :: u166 :: u167 :: u168 :: u169 :: u170 :: u171 :: u172 :: u173 :: u174 :: u175 :: u176 :: u177 :: u178 :: u179 :: u180 :: u181 :: u182 :: u183 :: u184 :: u185 :: u186 :: u187 :: u188 :: u189 :: u190 :: u191 :: u192 :: u193 :: u194 :: u195 :: u196 :: u197 :: u198 :: u199 :: u200 :: u201 :: u202 :: u203 :: u204 :: u205 :: u206 :: u207 :: u208 :: u209 :: u210 :: u211 :: u212 :: u213 :: u214 :: u215 :: u216 :: u217 :: u218 :: u219 :: u220 :: u221 :: u222 :: u223 :: u224 :: u225 :: u226 :: u227 :: u228 :: u229 :: u230 :: u231 :: u232 :: u233 :: u234 :: u235 :: u236 :: u237 :: u238 :: u239 :: u240 :: u241 :: u242 :: u243 :: u244 :: u245 :: u246 :: u247 :: u248 :: u249 :: u250 :: u251 :: u252 :: u253 :: u254 :: u255 :: u256 :: u257 :: u258 :: u259 :: u260 :: u261 :: []), defers := [] } w2 := by
  subst hC
  conv => arg 2; whnf
  obtain ⟨A, c, hr, hh, c0, c1, c2, c3, c4, c5, hf⟩ := H2.out.open
  clear hr hh c0 c3 c4 c5
  have hrest : r.rest = q := by unfold Rd.rest; rw [HS.out]; exact HQ.out
  have hcc : r.c = ch := by unfold Rd.c; rw [HS.out]; exact HCH.out
  have HREST := Aside0.mk hrest
  have HCC := Aside0.mk hcc
  have HRNG : Aside0 (0 ≤ ch ∧ ch ≤ 255) := ⟨by rw [← HCH.out]; exact bt_range L r.pos⟩
  have hT1 : 0 ≤ r.pos + 1 ∧ r.pos + 1 ≤ (L.size : Int) := by omega
  clear hrest hcc
  have hmb : (r.mark != 0) = false := bne_eq_false_iff_eq.mpr hmk
  have hme : (r.mark == 0) = true := beq_iff_eq.mpr hmk
  have hblank : blankB ch = false := by
    have := HBL.out
    unfold blankB
    simp only [Bool.or_eq_false_iff, decide_eq_false_iff_not]
    omega
  have HMK := Aside0.mk hmk
  have HBK := Aside0.mk hblank
  clear hmk hblank HBL
  have hB : (ch = 32) = False ∧ (ch = 9) = False ∧ (ch = 12) = False ∧ (ch = 13) = False := by
    have := HBK.out
    unfold blankB at this
    simp only [Bool.or_eq_false_iff, decide_eq_false_iff_not] at this
    exact ⟨eq_false this.1, eq_false this.2.1, eq_false this.2.2.1, eq_false this.2.2.2⟩
  have n32 : (ch != 32) = true := bne_iff_ne.mpr (of_eq_false hB.1)
  have n9 : (ch != 9) = true := bne_iff_ne.mpr (of_eq_false hB.2.1)
  have n12 : (ch != 12) = true := bne_iff_ne.mpr (of_eq_false hB.2.2.1)
  have n13 : (ch != 13) = true := bne_iff_ne.mpr (of_eq_false hB.2.2.2)
  have n35 : (ch != 35) = true := bne_iff_ne.mpr c35
  have n92 : (ch != 92) = true := bne_iff_ne.mpr c92
  have C35 := Aside0.mk c35
  have C92 := Aside0.mk c92
  clear hB c35 c92
  have hMb : (M != 0) = true := bne_iff_ne.mpr hM
  have hMr := begM_range q
  have hMbd := begM_bd q (by rw [HM.out]; exact hM)
  have hbe0 := HBE.out
  rw [HM.out] at hMr hMbd
  rw [if_neg hM] at hbe0
  have hqz : (q.size : Int) = (L.size : Int) - r.pos := by rw [← HQ.out, ByteArray.size_extract]; omega
  have HMR : Aside0 (1 ≤ M ∧ M ≤ 4) := ⟨by omega⟩
  have HFR : Aside0 (0 ≤ be ∧ be ≤ (L.size : Int)) := ⟨by omega⟩
  have HBEG : Aside0 (r.step = r.text be M 15) := ⟨by rw [step_beg r HMK.out (by rw [HCC.out]; exact HBK.out) (by rw [HCC.out]; exact C35.out) (by rw [HCC.out]; exact C92.out) (by rw [HREST.out, HM.out]; exact hM)]; unfold Rd.begun; rw [HREST.out, HM.out, hbe0]⟩
  clear hM hMr hMbd hbe0 hqz
  have hq := quot_size (m := M) HMR.out
  obtain ⟨nn, hw0, hcl⟩ : ∃ nn hw0, closeOf L (quot M) (tx (L.size + 1) L (quot M) be false) = (nn, hw0) := ⟨_, _, rfl⟩
  have hcb := close_bd L (quot M) be nn hw0 hq.1 HFR.out.1 hcl
  have hcc2 := fun w' => refClose_c L (quot M) be hLz hq.2 HFR.out.1 HFR.out.2 w'
  rw [hcl] at hcc2
  have hqc := fun w' => refQuot_c M HMR.out w'
  have HCL := Aside0.mk hcc2
  have HQC := Aside0.mk hqc
  have HST : Aside0 (r.step = r.close M 15 nn hw0) := ⟨by rw [HBEG.out]; exact text_close r _ _ _ _ _ (by rw [HS.out]; exact hcl)⟩
  have hT : 0 ≤ nn ∧ nn ≤ (L.size : Int) := ⟨hcb.1, hcb.2.1⟩
  have HHW := Aside0.mk hcb.2.2
  clear hcl hcb hcc2 hqc hq
  go_wp2_with (fail)
  refine (HQC.out _).mono ?_
  rintro _ w3 ⟨rfl, hb⟩
  have H3 : Aside0 (OutAt g w3 g { r with mark := M }) := ⟨(H2.out.setMark M).below hb⟩
  have HB3 : Aside0 (Below g W1 w3) := ⟨(HB2.out.setCell (p := ⟨g, 1, none⟩) (Nat.le_refl _) _).trans (hb.mono (by rw [World.size_setCell]; have := H2.out.lt; omega))⟩
  clear hb H2 HB2 c1 c2 hf
  obtain ⟨A, c, hr, hh, c0, c1, c2, c3, c4, c5, hf⟩ := H3.out.open
  clear hr hh c0 c1 c2 c3 c4 c5
  go_wp2_with (fail)
  refine (HCL.out _).mono ?_
  rintro _ w4 ⟨rfl, hb⟩
  have H4 := Aside0.mk (H3.out.below hb)
  have HB4 := Aside0.mk (HB3.out.trans (hb.mono (by have := H3.out.lt; omega)))
  clear hb H3 HB3 hf
  obtain ⟨A, c, hr, hh, c0, c1, c2, c3, c4, c5, hf⟩ := H4.out.open
  clear hr hh c0 c2 c3 c4 c5
  by_cases hle : M ≤ 2
  · have hleb : decide (M ≤ 2) = true := decide_eq_true hle
    rcases HHW.out with rfl | rfl | rfl
    · go_wp2_with (fail)
      go_meet
      case rel => exact ⟨{ r with mark := 0 }, 15, nn, rfl, rfl, rfl, ⟨H4.out.setMark 0⟩, ⟨HB4.out.setCell (p := ⟨g, 1, none⟩) (Nat.le_refl _) _⟩, ⟨by rw [HST.out]; unfold Rd.close; rw [if_pos rfl]⟩, ⟨rfl, rfl, rfl⟩, hT.1, hT.2⟩
    all_goals
      go_wp2_with (fail)
      go_meet
      case rel => exact ⟨{ r with mark := M }, 16, nn, rfl, rfl, rfl, H4, HB4, ⟨by rw [HST.out]; unfold Rd.close; rw [if_neg (by decide), if_pos (.inl hle)]⟩, ⟨rfl, rfl, rfl⟩, hT.1, hT.2⟩
  · have hleb : decide (M ≤ 2) = false := decide_eq_false hle
    have HLE := Aside0.mk hle
    rcases HHW.out with rfl | rfl | rfl
    · go_wp2_with (fail)
      go_meet
      case rel => exact ⟨{ r with mark := 0 }, 15, nn, rfl, rfl, rfl, ⟨H4.out.setMark 0⟩, ⟨HB4.out.setCell (p := ⟨g, 1, none⟩) (Nat.le_refl _) _⟩, ⟨by rw [HST.out]; unfold Rd.close; rw [if_pos rfl]⟩, ⟨rfl, rfl, rfl⟩, hT.1, hT.2⟩
    · go_wp2_with (fail)
      go_meet
      case rel => exact ⟨{ r with mark := M }, 16, nn, rfl, rfl, rfl, H4, HB4, ⟨by rw [HST.out]; unfold Rd.close; rw [if_neg (by decide), if_pos (.inr rfl)]⟩, ⟨rfl, rfl, rfl⟩, hT.1, hT.2⟩
    · go_wp2_with (fail)
      go_meet
      case rel => exact ⟨{ r with mark := 0 }, 2, nn, rfl, rfl, rfl, ⟨H4.out.setMark 0⟩, ⟨HB4.out.setCell (p := ⟨g, 1, none⟩) (Nat.le_refl _) _⟩, ⟨by rw [HST.out]; unfold Rd.close; rw [if_neg (by decide), if_neg (fun h => by rcases h with h | h; exact (by have := HLE.out; omega); exact absurd h (by decide))]⟩, ⟨rfl, rfl, rfl⟩, hT.1, hT.2⟩

set_option maxRecDepth 100000 in
set_option maxHeartbeats 4000000 in
theorem ref_go (u17 u18 u19 u20 u21 u22 u23 u24 u25 u26 u27 u28 u29 u30 u31 u32 u33 u34 u35 u53 u54 u55 u56 u57 u58 u59 u60 u61 u62 u63 u64 u65 u66 u67 u68 u69 u70 u71 u72 u73 u74 u75 u76 u77 u78 u79 u80 u81 u82 u83 u84 u85 u86 u87 u88 u89 u90 u91 u92 u93 u94 u95 u96 u97 u98 u99 u100 u101 u102 u103 u104 u105 u106 u107 u108 u109 u110 u111 u112 u113 u114 u115 u116 u117 u118 u119 u120 u121 u122 u123 u124 u125 u126 u127 u128 u129 u130 u131 u132 u133 u134 u135 u136 u137 u138 u139 u140 u141 u142 u143 u144 u145 u146 u147 u148 u149 u150 u151 u152 u153 u154 u155 u156 u157 u158 u159 u160 u161 u162 u163 u164 u165 u166 u167 u168 u169 u170 u171 u172 u173 u174 u175 u176 u177 u178 u179 u180 u181 u182 u183 u184 u185 u186 u187 u188 u189 u190 u191 u192 u193 u194 u195 u196 u197 u198 u199 u200 u201 u202 u203 u204 u205 u206 u207 u208 u209 u210 u211 u212 u213 u214 u215 u216 u217 u218 u219 u220 u221 u222 u223 u224 u225 u226 u227 u228 u229 u230 u231 u232 u233 u234 u235 u236 u237 u238 u239 u240 u241 u242 u243 u244 u245 u246 u247 u248 u249 u250 u251 u252 u253 u254 u255 u256 u257 u258 u259 u260 u261 : Value) (line : ByteArray) (pos mark depth : Int) (w : World) (L : ByteArray) (g : Nat) (W1 : World) (r0 r : Rd)
    (HOK : Aside0 r.Ok) (HS : Aside0 (r.s = L)) (hp0 : 0 ≤ r.pos) (hlt : r.pos < (L.size : Int)) (hLz : L.size ≤ 1000000) (q : ByteArray) (M be : Int)
    (HM : Aside0 (begM q = M)) (HBE : Aside0 ((if M = 0 then 0 else r.pos + begN 3 q 0 + ((quot M).size : Int)) = be)) (HQ : Aside0 (L.extract r.pos.toNat L.size = q)) (ch : Int)
    (hx : ∀ (h : r.pos.toNat < L.size), ((L[r.pos.toNat]'h).toNat : Int) = ch) (HCH : Aside0 (bt L r.pos = ch)) (hpq : (0 ≤ r.pos) = True) (hlq : (r.pos < (L.size : Int)) = True) (w2 : World)
    (H2 : Aside0 (OutAt g w2 g r)) (HB2 : Aside0 (Below g W1 w2)) (HBL : Aside0 (¬(r.mark = 0 ∧ (ch = 32 ∨ ch = 9 ∨ ch = 12 ∨ ch = 13))))
    (J K' : Act → World → Prop) (hJ : ∀ (a' : Act) (w' : World), (∃ u11 u13 u14 u16 u17 u18 u19 u38 u39 u40 u41 u42 u43 u44 u45 u46 u47 u48 u49 u50 u51 u52 u53 u54 u55 u56 u57 u58 u59 u60 u61 u62 u63 u64 u65 u66 u67 u68 u69 u70 u71 u72 u73 u74 u75 u76 u77 u78 u79 u80 u81 u82 u83 u84 u85 u86 u87 u88 u89 u90 u91 u92 u93 u94 u95 u96 u97 u98 u99 u100 u101 u102 u103 u104 u105 u106 u107 u108 u109 u110 u111 u112 u113 u114 u115 u116 u117 u118 u119 u120 u121 u122 u123 u124 u125 u126 u127 u128 u129 u130 u131 u132 u133 u134 u135 u136 u137 u138 u139 u140 u141 u142 u143 u144 u145 u146 u147 u148 u149 u150 u151 u152 u153 u154 u155 u156 u157 u158 u159 u160 u161 u162 u163 u164 u165 u166 u167 u168 u169 u170 u171 u172 u173 u174 u175 u176 u177 u178 u179 u180 u181 u182 u183 u184 u185 u186 u187 u188 u189 u190 u191 u192 u193 u194 u195 u196 u197 u198 u199 u200 u201 u202 u203 u204 u205 u206 u207 u208 u209 u210 u211 u212 u213 u214 u215 u216 u217 u218 u219 u220 u221 u222 u223 u224 u225 u226 u227 u228 u229 u230 u231 u232 u233 u234 u235 u236 u237 u238 u239 u240 u241 u242 u243 u244 u245 u246 u247 u248 u249 u250 u251 u252 u253 u254 u255 u256 u257 u258 u259 u260, (∃ r2 K T, u11 = Value.int IntKind.i64 r.pos ∧ u13 = Value.int IntKind.u8 K ∧ u14 = Value.int IntKind.i64 T ∧ Aside0 (OutAt g w' g r2) ∧ Aside0 (Below g W1 w') ∧ Aside0 (r.step = r2.leaf K T) ∧ Aside0 (r2.s = r.s ∧ r2.pos = r.pos ∧ r2.ev = r.ev) ∧ 0 ≤ T ∧ T ≤ ↑L.size) ∧ a' = { tmps := List.toArray (Value.string line :: Value.int IntKind.i64 pos :: Value.int IntKind.u8 mark :: Value.int IntKind.i64 depth :: undef :: undef :: undef :: undef :: Value.pointer (some { block := w.heap.size, off := 0 }) :: Value.string L :: Value.pointer (some { block := g, off := 0 }) :: u11 :: Value.int IntKind.u8 ch :: u13 :: u14 :: Value.int IntKind.u8 M :: u16 :: u17 :: u18 :: u19 :: u20 :: u21 :: u22 :: u23 :: u24 :: u25 :: u26 :: u27 :: u28 :: u29 :: u30 :: u31 :: u32 :: u33 :: u34 :: u35 :: Value.int IntKind.i64 pos :: Value.int IntKind.i64 r0.pos :: u38 :: u39 :: u40 :: u41 :: u42 :: u43 :: u44 :: u45 :: u46 :: u47 :: u48 :: u49 :: u50 :: u51 :: u52 :: u53 :: u54 :: u55 :: u56 :: u57 :: u58 :: u59 :: u60 :: u61 :: u62 :: u63 :: u64 :: u65 :: u66 :: u67 :: u68 :: u69 :: u70 :: u71 :: u72 :: u73 :: u74 :: u75 :: u76 :: u77 :: u78 :: u79 :: u80 :: u81 :: u82 :: u83 :: u84 :: u85 :: u86 :: u87 :: u88 :: u89 :: u90 :: u91 :: u92 :: u93 :: u94 :: u95 :: u96 :: u97 :: u98 :: u99 :: u100 :: u101 :: u102 :: u103 :: u104 :: u105 :: u106 :: u107 :: u108 :: u109 :: u110 :: u111 :: u112 :: u113 :: u114 :: u115 :: u116 :: u117 :: u118 :: u119 :: u120 :: u121 :: u122 :: u123 :: u124 :: u125 :: u126 :: u127 :: u128 :: u129 :: u130 :: u131 :: u132 :: u133 :: u134 :: u135 :: u136 :: u137 :: u138 :: u139 :: u140 :: u141 :: u142 :: u143 :: u144 :: u145 :: u146 :: u147 :: u148 :: u149 :: u150 :: u151 :: u152 :: u153 :: u154 :: u155 :: u156 :: u157 :: u158 :: u159 :: u160 :: u161 :: u162 :: u163 :: u164 :: u165 :: u166 :: u167 :: u168 :: u169 :: u170 :: u171 :: u172 :: u173 :: u174 :: u175 :: u176 :: u177 :: u178 :: u179 :: u180 :: u181 :: u182 :: u183 :: u184 :: u185 :: u186 :: u187 :: u188 :: u189 :: u190 :: u191 :: u192 :: u193 :: u194 :: u195 :: u196 :: u197 :: u198 :: u199 :: u200 :: u201 :: u202 :: u203 :: u204 :: u205 :: u206 :: u207 :: u208 :: u209 :: u210 :: u211 :: u212 :: u213 :: u214 :: u215 :: u216 :: u217 :: u218 :: u219 :: u220 :: u221 :: u222 :: u223 :: u224 :: u225 :: u226 :: u227 :: u228 :: u229 :: u230 :: u231 :: u232 :: u233 :: u234 :: u235 :: u236 :: u237 :: u238 :: u239 :: u240 :: u241 :: u242 :: u243 :: u244 :: u245 :: u246 :: u247 :: u248 :: u249 :: u250 :: u251 :: u252 :: u253 :: u254 :: u255 :: u256 :: u257 :: u258 :: u259 :: u260 :: u261 :: []), defers := [] }) → J a' w') (hK : ∀ (a' : Act) (w' : World), Met J a' w' → K' a' w') (Qr : Exit → Act → World → Prop)
    (hmk : ¬ r.mark = 0) (C : Code) (hC : C = ((findB 2 ((Try.f11.body).getD .skip)).getD .skip)) : Code.wp Try.prog C (Exit.then K' Qr) { tmps := List.toArray (Value.string line :: Value.int IntKind.i64 pos :: Value.int IntKind.u8 mark :: Value.int IntKind.i64 depth :: undef :: undef :: undef :: undef :: Value.pointer (some { block := w.heap.size, off := 0 }) :: Value.string L :: Value.pointer (some { block := g, off := 0 }) :: Value.int IntKind.i64 r.pos :: Value.int IntKind.u8 ch :: Value.int IntKind.u8 2 :: Value.int IntKind.i64 (r.pos + 1) :: Value.int IntKind.u8 M :: Value.int IntKind.i64 be :: u17 :: u18 :: u19 :: u20 :: u21 :: u22 :: u23 :: u24 :: u25 :: u26 :: u27 :: u28 :: u29 :: u30 :: u31 :: u32 :: u33 :: u34 :: u35 :: Value.int IntKind.i64 pos :: Value.int IntKind.i64 r0.pos :: Value.int IntKind.i64 r.pos :: Value.string L :: Value.int IntKind.i64 ↑L.size :: Value.bool true :: Value.string L :: Value.int IntKind.i64 r.pos :: Value.int IntKind.u8 ch :: Value.int IntKind.i64 r.pos :: Value.int IntKind.i64 (r.pos + 1) :: Value.tuple #[Value.int IntKind.u8 M, Value.int IntKind.i64 be] :: Value.string L :: Value.int IntKind.i64 r.pos :: Value.tuple #[Value.int IntKind.u8 M, Value.int IntKind.i64 be] :: Value.int IntKind.u8 M :: Value.int IntKind.i64 be :: u53 :: u54 :: u55 :: u56 :: u57 :: u58 :: u59 :: u60 :: u61 :: u62 :: u63 :: u64 :: u65 :: u66 :: u67 :: u68 :: u69 :: u70 :: u71 :: u72 :: u73 :: u74 :: u75 :: u76 :: u77 :: u78 :: u79 :: u80 :: u81 :: u82 :: u83 :: u84 :: u85 :: u86 :: u87 :: u88 :: u89 :: u90 :: u91 :: u92 :: u93 :: u94 :: u95 :: u96 :: u97 :: u98 :: u99 :: u100 :: u101 :: u102 :: u103 :: u104 :: u105 :: u106 :: u107 :: u108 :: u109 :: u110 :: u111 :: u112 :: u113 :: u114 :: u115 :: u116 :: u117 :: u118 :: u119 :: u120 :: u121 :: u122 :: u123 :: u124 :: u125 :: u126 :: u127 :: u128 :: u129 :: u130 :: u131 :: u132 :: u133 :: u134 :: u135 :: u136 :: u137 :: u138 :: u139 :: u140 :: u141 :: u142 :: u143 :: u144 :: u145 :: u146 :: u147 :: u148 :: u149 :: u150 :: u151 :: u152 :: u153 :: u154 :: u155 :: u156 :: u157 :: u158 :: u159 :: u160 :: u161 :: u162 :: u163 :: u164 :: u165 :: u166 :: u167 :: u168 :: u169 :: u170 :: u171 :: u172 :: u173 :: u174 :: u175 :: u176 :: u177 :: u178 :: u179 :: u180 :: u181 :: u182 :: u183 :: u184 :: u185 :: u186 :: u187 :: u188 :: u189 :: u190 :: u191 :: u192 :: u193 :: u194 :: u195 :: u196 :: u197 :: u198 :: u199 :: u200 :: u201 :: u202 :: u203 :: u204 :: u205 :: u206 :: u207 :: u208 :: u209 :: u210 :: u211 :: u212 :: u213 :: u214 :: u215 :: u216 :: u217 :: u218 :: u219 :: u220 :: u221 :: u222 :: u223 :: u224 :: u225 :: u226 :: u227 :: u228 :: u229 :: u230 :: u231 :: u232 :: u233 :: u234 :: u235 :: u236 :: u237 :: u238 :: u239 :: u240 :: u241 :: u242 :: u243 :: u244 :: u245 :: u246 :: u247 :: u248 :: u249 :: u250 :: u251 :: u252 :: u253 :: u254 :: u255 :: u256 :: u257 :: u258 :: u259 :: u260 :: u261 :: []), defers := [] } w2 := by
  subst hC
  conv => arg 2; whnf
  obtain ⟨A, c, hr, hh, c0, c1, c2, c3, c4, c5, hf⟩ := H2.out.open
  clear hr hh c0 c3 c4 c5
  have hrest : r.rest = q := by unfold Rd.rest; rw [HS.out]; exact HQ.out
  have hcc : r.c = ch := by unfold Rd.c; rw [HS.out]; exact HCH.out
  have HREST := Aside0.mk hrest
  have HCC := Aside0.mk hcc
  have HRNG : Aside0 (0 ≤ ch ∧ ch ≤ 255) := ⟨by rw [← HCH.out]; exact bt_range L r.pos⟩
  have hT1 : 0 ≤ r.pos + 1 ∧ r.pos + 1 ≤ (L.size : Int) := by omega
  clear hrest hcc
  have hmb : (r.mark != 0) = true := bne_iff_ne.mpr hmk
  have hme : (r.mark == 0) = false := beq_eq_false_iff_ne.mpr hmk
  have HMR : Aside0 (1 ≤ r.mark ∧ r.mark ≤ 4) := ⟨by have := HOK.out.m; omega⟩
  have HFR : Aside0 (0 ≤ r.pos ∧ r.pos ≤ (L.size : Int)) := ⟨by omega⟩
  have HGO : Aside0 (r.step = r.text r.pos r.mark 16) := ⟨step_mark r hmk⟩
  clear hmk HBL
  have hq := quot_size (m := r.mark) HMR.out
  obtain ⟨nn, hw0, hcl⟩ : ∃ nn hw0, closeOf L (quot r.mark) (tx (L.size + 1) L (quot r.mark) r.pos false) = (nn, hw0) := ⟨_, _, rfl⟩
  have hcb := close_bd L (quot r.mark) r.pos nn hw0 hq.1 HFR.out.1 hcl
  have hcc2 := fun w' => refClose_c L (quot r.mark) r.pos hLz hq.2 HFR.out.1 HFR.out.2 w'
  rw [hcl] at hcc2
  have hqc := fun w' => refQuot_c r.mark HMR.out w'
  have HCL := Aside0.mk hcc2
  have HQC := Aside0.mk hqc
  have HST : Aside0 (r.step = r.close r.mark 16 nn hw0) := ⟨by rw [HGO.out]; exact text_close r _ _ _ _ _ (by rw [HS.out]; exact hcl)⟩
  have hT : 0 ≤ nn ∧ nn ≤ (L.size : Int) := ⟨hcb.1, hcb.2.1⟩
  have HHW := Aside0.mk hcb.2.2
  clear hcl hcb hcc2 hqc hq
  go_wp2_with (fail)
  refine (HQC.out _).mono ?_
  rintro _ w3 ⟨rfl, hb⟩
  have H3 : Aside0 (OutAt g w3 g r) := ⟨(H2.out).below hb⟩
  have HB3 : Aside0 (Below g W1 w3) := ⟨HB2.out.trans (hb.mono (by have := H2.out.lt; omega))⟩
  clear hb H2 HB2 c1 c2 hf
  obtain ⟨A, c, hr, hh, c0, c1, c2, c3, c4, c5, hf⟩ := H3.out.open
  clear hr hh c0 c1 c2 c3 c4 c5
  go_wp2_with (fail)
  refine (HCL.out _).mono ?_
  rintro _ w4 ⟨rfl, hb⟩
  have H4 := Aside0.mk (H3.out.below hb)
  have HB4 := Aside0.mk (HB3.out.trans (hb.mono (by have := H3.out.lt; omega)))
  clear hb H3 HB3 hf
  obtain ⟨A, c, hr, hh, c0, c1, c2, c3, c4, c5, hf⟩ := H4.out.open
  clear hr hh c0 c2 c3 c4 c5
  by_cases hle : r.mark ≤ 2
  · have hleb : decide (r.mark ≤ 2) = true := decide_eq_true hle
    rcases HHW.out with rfl | rfl | rfl
    · go_wp2_with (fail)
      go_meet
      case rel => exact ⟨{ r with mark := 0 }, 16, nn, rfl, rfl, rfl, ⟨H4.out.setMark 0⟩, ⟨HB4.out.setCell (p := ⟨g, 1, none⟩) (Nat.le_refl _) _⟩, ⟨by rw [HST.out]; unfold Rd.close; rw [if_pos rfl]⟩, ⟨rfl, rfl, rfl⟩, hT.1, hT.2⟩
    all_goals
      go_wp2_with (fail)
      go_meet
      case rel => exact ⟨{ r with mark := r.mark }, 16, nn, rfl, rfl, rfl, H4, HB4, ⟨by rw [HST.out]; unfold Rd.close; rw [if_neg (by decide), if_pos (.inl hle)]⟩, ⟨rfl, rfl, rfl⟩, hT.1, hT.2⟩
  · have hleb : decide (r.mark ≤ 2) = false := decide_eq_false hle
    have HLE := Aside0.mk hle
    rcases HHW.out with rfl | rfl | rfl
    · go_wp2_with (fail)
      go_meet
      case rel => exact ⟨{ r with mark := 0 }, 16, nn, rfl, rfl, rfl, ⟨H4.out.setMark 0⟩, ⟨HB4.out.setCell (p := ⟨g, 1, none⟩) (Nat.le_refl _) _⟩, ⟨by rw [HST.out]; unfold Rd.close; rw [if_pos rfl]⟩, ⟨rfl, rfl, rfl⟩, hT.1, hT.2⟩
    · go_wp2_with (fail)
      go_meet
      case rel => exact ⟨{ r with mark := r.mark }, 16, nn, rfl, rfl, rfl, H4, HB4, ⟨by rw [HST.out]; unfold Rd.close; rw [if_neg (by decide), if_pos (.inr rfl)]⟩, ⟨rfl, rfl, rfl⟩, hT.1, hT.2⟩
    · go_wp2_with (fail)
      go_meet
      case rel => exact ⟨{ r with mark := 0 }, 2, nn, rfl, rfl, rfl, ⟨H4.out.setMark 0⟩, ⟨HB4.out.setCell (p := ⟨g, 1, none⟩) (Nat.le_refl _) _⟩, ⟨by rw [HST.out]; unfold Rd.close; rw [if_neg (by decide), if_neg (fun h => by rcases h with h | h; exact (by have := HLE.out; omega); exact absurd h (by decide))]⟩, ⟨rfl, rfl, rfl⟩, hT.1, hT.2⟩

end Go.Proofs.Ytdknppomjcpihaa.PPy
