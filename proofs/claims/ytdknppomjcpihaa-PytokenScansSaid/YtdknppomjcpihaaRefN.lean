/- The document's Scan: a number. -/
import Derived.Test.YtdknppomjcpihaaRefQ
import Derived.Test.YtdknppomjcpihaaRefNo
namespace Go.Proofs.Ytdknppomjcpihaa.PPy
open Go.RowKit Go.Proofs.YtdknppomjcpihaaW.PrintWords Go.Proofs.YtdknppomjcpihaaW.PrintLast Go.Proofs.YtdknppomjcpihaaW.PrintMore
attribute [local go_sem] max2_int min2_int max_two min_two max_three min_three max_four min_four
set_option linter.unusedVariables false

set_option maxRecDepth 100000 in
set_option maxHeartbeats 4000000 in
theorem ref_nt (u17 u18 u19 u20 u21 u22 u23 u24 u25 u26 u27 u28 u29 u30 u31 u32 u33 u34 u35 u38 u39 u40 u41 u42 u43 u44 u45 u46 u47 u48 u49 u50 u51 u52 u54 u55 u56 u57 u58 u59 u60 u61 u62 u63 u64 u65 u66 u67 u68 u69 u70 u71 u72 u73 u74 u75 u76 u77 u78 u79 u80 u81 u82 u83 u84 u85 u86 u87 u88 u89 u90 u91 u92 u93 u94 u95 u96 u97 u98 u99 u100 u101 u102 u103 u104 u105 u106 u107 u108 u109 u110 u111 u112 u114 u115 u116 u117 u118 u119 u120 u121 u122 u123 u124 u125 u126 u127 u128 u129 u131 u132 u133 u134 u136 u137 u138 u139 u140 u141 u142 u144 u145 u146 u147 u148 u149 u150 u151 u152 u153 u154 u155 u156 u157 u158 u159 u160 u161 u162 u163 u165 u166 u167 u168 u169 u170 u171 u172 u173 u174 u175 u176 u177 u178 u179 u180 u181 u182 u183 u184 u185 u186 u187 u188 u189 u190 u191 u192 u193 u194 u195 u196 u197 u198 u199 u200 u201 u202 u203 u204 u205 u206 u207 u208 u209 u210 u211 u212 u213 u214 u215 u216 u217 u218 u219 u220 u221 u222 u223 u224 u225 u226 u227 u228 u229 u230 u231 u232 u233 u234 u235 u236 u237 u238 u239 u240 u241 u242 u243 u244 u245 u246 u247 u248 u249 u250 u251 u252 u253 u254 u255 u256 u257 u258 u259 u260 u261 : Value) (line : ByteArray) (pos mark depth : Int) (w : World) (L : ByteArray) (g : Nat) (W1 : World) (r0 r : Rd)
    (HOK : Aside0 r.Ok) (HS : Aside0 (r.s = L)) (hp0 : 0 ≤ r.pos) (hlt : r.pos < (L.size : Int)) (hLz : L.size ≤ 1000000) (q : ByteArray) (M be : Int)
    (HM : Aside0 (begM q = M)) (HBE : Aside0 ((if M = 0 then 0 else r.pos + begN 3 q 0 + ((quot M).size : Int)) = be)) (HQ : Aside0 (L.extract r.pos.toNat L.size = q)) (ch : Int)
    (hx : ∀ (h : r.pos.toNat < L.size), ((L[r.pos.toNat]'h).toNat : Int) = ch) (HCH : Aside0 (bt L r.pos = ch)) (hpq : (0 ≤ r.pos) = True) (hlq : (r.pos < (L.size : Int)) = True) (w2 : World)
    (H2 : Aside0 (OutAt g w2 g r)) (HB2 : Aside0 (Below g W1 w2)) (HBL : Aside0 (¬(r.mark = 0 ∧ (ch = 32 ∨ ch = 9 ∨ ch = 12 ∨ ch = 13))))
    (J K' : Act → World → Prop) (hJ : ∀ (a' : Act) (w' : World), (∃ u11 u13 u14 u16 u17 u18 u19 u38 u39 u40 u41 u42 u43 u44 u45 u46 u47 u48 u49 u50 u51 u52 u53 u54 u55 u56 u57 u58 u59 u60 u61 u62 u63 u64 u65 u66 u67 u68 u69 u70 u71 u72 u73 u74 u75 u76 u77 u78 u79 u80 u81 u82 u83 u84 u85 u86 u87 u88 u89 u90 u91 u92 u93 u94 u95 u96 u97 u98 u99 u100 u101 u102 u103 u104 u105 u106 u107 u108 u109 u110 u111 u112 u113 u114 u115 u116 u117 u118 u119 u120 u121 u122 u123 u124 u125 u126 u127 u128 u129 u130 u131 u132 u133 u134 u135 u136 u137 u138 u139 u140 u141 u142 u143 u144 u145 u146 u147 u148 u149 u150 u151 u152 u153 u154 u155 u156 u157 u158 u159 u160 u161 u162 u163 u164 u165 u166 u167 u168 u169 u170 u171 u172 u173 u174 u175 u176 u177 u178 u179 u180 u181 u182 u183 u184 u185 u186 u187 u188 u189 u190 u191 u192 u193 u194 u195 u196 u197 u198 u199 u200 u201 u202 u203 u204 u205 u206 u207 u208 u209 u210 u211 u212 u213 u214 u215 u216 u217 u218 u219 u220 u221 u222 u223 u224 u225 u226 u227 u228 u229 u230 u231 u232 u233 u234 u235 u236 u237 u238 u239 u240 u241 u242 u243 u244 u245 u246 u247 u248 u249 u250 u251 u252 u253 u254 u255 u256 u257 u258 u259 u260, (∃ r2 K T, u11 = Value.int IntKind.i64 r.pos ∧ u13 = Value.int IntKind.u8 K ∧ u14 = Value.int IntKind.i64 T ∧ Aside0 (OutAt g w' g r2) ∧ Aside0 (Below g W1 w') ∧ Aside0 (r.step = r2.leaf K T) ∧ Aside0 (r2.s = r.s ∧ r2.pos = r.pos ∧ r2.ev = r.ev) ∧ 0 ≤ T ∧ T ≤ ↑L.size) ∧ a' = { tmps := List.toArray (Value.string line :: Value.int IntKind.i64 pos :: Value.int IntKind.u8 mark :: Value.int IntKind.i64 depth :: undef :: undef :: undef :: undef :: Value.pointer (some { block := w.heap.size, off := 0 }) :: Value.string L :: Value.pointer (some { block := g, off := 0 }) :: u11 :: Value.int IntKind.u8 ch :: u13 :: u14 :: Value.int IntKind.u8 M :: u16 :: u17 :: u18 :: u19 :: u20 :: u21 :: u22 :: u23 :: u24 :: u25 :: u26 :: u27 :: u28 :: u29 :: u30 :: u31 :: u32 :: u33 :: u34 :: u35 :: Value.int IntKind.i64 pos :: Value.int IntKind.i64 r0.pos :: u38 :: u39 :: u40 :: u41 :: u42 :: u43 :: u44 :: u45 :: u46 :: u47 :: u48 :: u49 :: u50 :: u51 :: u52 :: u53 :: u54 :: u55 :: u56 :: u57 :: u58 :: u59 :: u60 :: u61 :: u62 :: u63 :: u64 :: u65 :: u66 :: u67 :: u68 :: u69 :: u70 :: u71 :: u72 :: u73 :: u74 :: u75 :: u76 :: u77 :: u78 :: u79 :: u80 :: u81 :: u82 :: u83 :: u84 :: u85 :: u86 :: u87 :: u88 :: u89 :: u90 :: u91 :: u92 :: u93 :: u94 :: u95 :: u96 :: u97 :: u98 :: u99 :: u100 :: u101 :: u102 :: u103 :: u104 :: u105 :: u106 :: u107 :: u108 :: u109 :: u110 :: u111 :: u112 :: u113 :: u114 :: u115 :: u116 :: u117 :: u118 :: u119 :: u120 :: u121 :: u122 :: u123 :: u124 :: u125 :: u126 :: u127 :: u128 :: u129 :: u130 :: u131 :: u132 :: u133 :: u134 :: u135 :: u136 :: u137 :: u138 :: u139 :: u140 :: u141 :: u142 :: u143 :: u144 :: u145 :: u146 :: u147 :: u148 :: u149 :: u150 :: u151 :: u152 :: u153 :: u154 :: u155 :: u156 :: u157 :: u158 :: u159 :: u160 :: u161 :: u162 :: u163 :: u164 :: u165 :: u166 :: u167 :: u168 :: u169 :: u170 :: u171 :: u172 :: u173 :: u174 :: u175 :: u176 :: u177 :: u178 :: u179 :: u180 :: u181 :: u182 :: u183 :: u184 :: u185 :: u186 :: u187 :: u188 :: u189 :: u190 :: u191 :: u192 :: u193 :: u194 :: u195 :: u196 :: u197 :: u198 :: u199 :: u200 :: u201 :: u202 :: u203 :: u204 :: u205 :: u206 :: u207 :: u208 :: u209 :: u210 :: u211 :: u212 :: u213 :: u214 :: u215 :: u216 :: u217 :: u218 :: u219 :: u220 :: u221 :: u222 :: u223 :: u224 :: u225 :: u226 :: u227 :: u228 :: u229 :: u230 :: u231 :: u232 :: u233 :: u234 :: u235 :: u236 :: u237 :: u238 :: u239 :: u240 :: u241 :: u242 :: u243 :: u244 :: u245 :: u246 :: u247 :: u248 :: u249 :: u250 :: u251 :: u252 :: u253 :: u254 :: u255 :: u256 :: u257 :: u258 :: u259 :: u260 :: u261 :: []), defers := [] }) → J a' w') (hK : ∀ (a' : Act) (w' : World), Met J a' w' → K' a' w') (Qr : Exit → Act → World → Prop)
    (hmk : r.mark = 0) (c35 : ¬ ch = 35) (c92 : ¬ ch = 92) (hM : M = 0) (hlv : letterB ch = false) (hnb0 : numB q = true) (C : Code) (hC : C = ((condB 164 ((Try.f11.body).getD .skip)).getD .skip)) : Code.wp Try.prog C (Exit.inBlock 2 (Exit.then K' Qr)) { tmps := List.toArray (Value.string line :: Value.int IntKind.i64 pos :: Value.int IntKind.u8 mark :: Value.int IntKind.i64 depth :: undef :: undef :: undef :: undef :: Value.pointer (some { block := w.heap.size, off := 0 }) :: Value.string L :: Value.pointer (some { block := g, off := 0 }) :: Value.int IntKind.i64 r.pos :: Value.int IntKind.u8 ch :: Value.int IntKind.u8 2 :: Value.int IntKind.i64 (r.pos + 1) :: Value.int IntKind.u8 M :: Value.int IntKind.i64 be :: u17 :: u18 :: u19 :: u20 :: u21 :: u22 :: u23 :: u24 :: u25 :: u26 :: u27 :: u28 :: u29 :: u30 :: u31 :: u32 :: u33 :: u34 :: u35 :: Value.int IntKind.i64 pos :: Value.int IntKind.i64 r0.pos :: u38 :: u39 :: u40 :: u41 :: u42 :: u43 :: u44 :: u45 :: u46 :: u47 :: u48 :: u49 :: u50 :: u51 :: u52 :: Value.bool false :: u54 :: u55 :: u56 :: u57 :: u58 :: u59 :: u60 :: u61 :: u62 :: u63 :: u64 :: u65 :: u66 :: u67 :: u68 :: u69 :: u70 :: u71 :: u72 :: u73 :: u74 :: u75 :: u76 :: u77 :: u78 :: u79 :: u80 :: u81 :: u82 :: u83 :: u84 :: u85 :: u86 :: u87 :: u88 :: u89 :: u90 :: u91 :: u92 :: u93 :: u94 :: u95 :: u96 :: u97 :: u98 :: u99 :: u100 :: u101 :: u102 :: u103 :: u104 :: u105 :: u106 :: u107 :: u108 :: u109 :: u110 :: u111 :: u112 :: Value.bool false :: u114 :: u115 :: u116 :: u117 :: u118 :: u119 :: u120 :: u121 :: u122 :: u123 :: u124 :: u125 :: u126 :: u127 :: u128 :: u129 :: Value.bool false :: u131 :: u132 :: u133 :: u134 :: Value.bool false :: u136 :: u137 :: u138 :: u139 :: u140 :: u141 :: u142 :: Value.bool false :: u144 :: u145 :: u146 :: u147 :: u148 :: u149 :: u150 :: u151 :: u152 :: u153 :: u154 :: u155 :: u156 :: u157 :: u158 :: u159 :: u160 :: u161 :: u162 :: u163 :: Value.bool true :: u165 :: u166 :: u167 :: u168 :: u169 :: u170 :: u171 :: u172 :: u173 :: u174 :: u175 :: u176 :: u177 :: u178 :: u179 :: u180 :: u181 :: u182 :: u183 :: u184 :: u185 :: u186 :: u187 :: u188 :: u189 :: u190 :: u191 :: u192 :: u193 :: u194 :: u195 :: u196 :: u197 :: u198 :: u199 :: u200 :: u201 :: u202 :: u203 :: u204 :: u205 :: u206 :: u207 :: u208 :: u209 :: u210 :: u211 :: u212 :: u213 :: u214 :: u215 :: u216 :: u217 :: u218 :: u219 :: u220 :: u221 :: u222 :: u223 :: u224 :: u225 :: u226 :: u227 :: u228 :: u229 :: u230 :: u231 :: u232 :: u233 :: u234 :: u235 :: u236 :: u237 :: u238 :: u239 :: u240 :: u241 :: u242 :: u243 :: u244 :: u245 :: u246 :: u247 :: u248 :: u249 :: u250 :: u251 :: u252 :: u253 :: u254 :: u255 :: u256 :: u257 :: u258 :: u259 :: u260 :: u261 :: []), defers := [] } w2 := by
  subst hC
  conv => arg 2; whnf
  let Qz : Exit → Act → World → Prop := bodyPost Try.prog Try.f11 fun _ _ => True
  obtain ⟨A, c, hr, hh, c0, c1, c2, c3, c4, c5, hf⟩ := H2.out.open
  clear hr hh c0 c3 c4 c5
  clear c1 c2 hf
  have hrest : r.rest = q := by unfold Rd.rest; rw [HS.out]; exact HQ.out
  have hcc : r.c = ch := by unfold Rd.c; rw [HS.out]; exact HCH.out
  have HREST := Aside0.mk hrest
  have HCC := Aside0.mk hcc
  have HRNG : Aside0 (0 ≤ ch ∧ ch ≤ 255) := ⟨by rw [← HCH.out]; exact bt_range L r.pos⟩
  have hT1 : 0 ≤ r.pos + 1 ∧ r.pos + 1 ≤ (L.size : Int) := by omega
  clear hrest hcc
  have hmb : (r.mark != 0) = false := bne_eq_false_iff_eq.mpr hmk
  have hme : (r.mark == 0) = true := beq_iff_eq.mpr hmk
  have hblank : blankB ch = false := by
    have := HBL.out
    unfold blankB
    simp only [Bool.or_eq_false_iff, decide_eq_false_iff_not]
    omega
  have HMK := Aside0.mk hmk
  have HBK := Aside0.mk hblank
  clear hmk hblank HBL
  have hB : (ch = 32) = False ∧ (ch = 9) = False ∧ (ch = 12) = False ∧ (ch = 13) = False := by
    have := HBK.out
    unfold blankB at this
    simp only [Bool.or_eq_false_iff, decide_eq_false_iff_not] at this
    exact ⟨eq_false this.1, eq_false this.2.1, eq_false this.2.2.1, eq_false this.2.2.2⟩
  have n32 : (ch != 32) = true := bne_iff_ne.mpr (of_eq_false hB.1)
  have n9 : (ch != 9) = true := bne_iff_ne.mpr (of_eq_false hB.2.1)
  have n12 : (ch != 12) = true := bne_iff_ne.mpr (of_eq_false hB.2.2.1)
  have n13 : (ch != 13) = true := bne_iff_ne.mpr (of_eq_false hB.2.2.2)
  have n35 : (ch != 35) = true := bne_iff_ne.mpr c35
  have n92 : (ch != 92) = true := bne_iff_ne.mpr c92
  have C35 := Aside0.mk c35
  have C92 := Aside0.mk c92
  clear hB c35 c92
  have hMb : (M != 0) = false := bne_eq_false_iff_eq.mpr hM
  have HM0 : Aside0 (begM r.rest = 0) := ⟨by rw [HREST.out, HM.out]; exact hM⟩
  have e32 : (ch == 32) = false := by simpa using n32
  have e9 : (ch == 9) = false := by simpa using n9
  have e12 : (ch == 12) = false := by simpa using n12
  have e13 : (ch == 13) = false := by simpa using n13
  have e35 : (ch == 35) = false := by simpa using n35
  have e92 : (ch == 92) = false := by simpa using n92
  clear hM
  have hlet := fun w' => refLetter_c ch HRNG.out w'
  rw [hlv] at hlet
  have HLET := Aside0.mk hlet
  have HLV := Aside0.mk hlv
  clear hlet hlv
  obtain ⟨nb, hnb, hnbv⟩ : ∃ nb, numB q = nb ∧ nb = true := ⟨_, rfl, hnb0⟩
  subst hnbv
  have hq0 : bt q 0 = ch := by rw [← HCH.out, ← HQ.out, bt_rest L r.pos 0 hp0 (Int.le_refl _) (by omega), Int.add_zero]
  have hq1 : bt q 1 = bt L (r.pos + 1) := by rw [← HQ.out, bt_rest L r.pos 1 hp0 (by omega) (by omega)]
  have hqz : (q.size : Int) = (L.size : Int) - r.pos := by rw [← HQ.out, ByteArray.size_extract]; omega
  have hnb2 := hnb
  unfold numB at hnb2
  rw [hq0, hq1] at hnb2
  have HNB := Aside0.mk hnb
  have HNB2 := Aside0.mk hnb2
  have HQZ := Aside0.mk hqz
  have HQ0 := Aside0.mk hq0
  clear hnb hnb2 hqz hq0 hq1
  have nb_dummy := True.intro
  have H3 := H2
  have HB3 := HB2
  clear H2 HB2
  obtain ⟨T0, hT0⟩ : ∃ T0, r.pos + numEnd (L.size + 1) q (signsB q) 1 = T0 := ⟨_, rfl⟩
  have hTb : 0 ≤ T0 ∧ T0 ≤ (L.size : Int) := by
    have hb := numEnd_bd q (signsB q) (L.size + 1) 1
    have hz := HQZ.out
    have := hb.2 (by omega)
    have := hb.1
    omega
  have hcn := fun w' => refNumber_c L r.pos hLz hp0 hlt w'
  rw [HQ.out, hT0] at hcn
  have HCN := Aside0.mk hcn
  have HT0 := Aside0.mk hT0
  clear hcn hT0
  go_wp2_with (fail)
  refine (HCN.out _).mono ?_
  rintro _ w4 ⟨rfl, hb⟩
  have H4 := Aside0.mk (H3.out.below hb)
  have HB4 := Aside0.mk (HB3.out.trans (hb.mono (by have := H3.out.lt; omega)))
  clear hb H3 HB3
  go_wp2_with (fail)
  go_meet
  case rel => exact ⟨r, 14, T0, rfl, rfl, rfl, H4, HB4, ⟨by rw [step_num r HMK.out (by rw [HCC.out]; exact HBK.out) (by rw [HCC.out]; exact C35.out) (by rw [HCC.out]; exact C92.out) HM0.out (by rw [HCC.out]; exact HLV.out) (by rw [HREST.out]; exact HNB.out)]; unfold Rd.number; rw [HREST.out, HS.out, HT0.out]⟩, ⟨rfl, rfl, rfl⟩, hTb.1, hTb.2⟩

end Go.Proofs.Ytdknppomjcpihaa.PPy

namespace Go.Proofs.Ytdknppomjcpihaa.PPy
open Go.RowKit Go.Proofs.YtdknppomjcpihaaW.PrintWords Go.Proofs.YtdknppomjcpihaaW.PrintLast Go.Proofs.YtdknppomjcpihaaW.PrintMore
attribute [local go_sem] max2_int min2_int max_two min_two max_three min_three max_four min_four
set_option linter.unusedVariables false

set_option maxRecDepth 100000 in
set_option maxHeartbeats 4000000 in
theorem ref_nx (u17 u18 u19 u20 u21 u22 u23 u24 u25 u26 u27 u28 u29 u30 u31 u32 u33 u34 u35 u38 u39 u40 u41 u42 u43 u44 u45 u46 u47 u48 u49 u50 u51 u52 u54 u55 u56 u57 u58 u59 u60 u61 u62 u63 u64 u65 u66 u67 u68 u69 u70 u71 u72 u73 u74 u75 u76 u77 u78 u79 u80 u81 u82 u83 u84 u85 u86 u87 u88 u89 u90 u91 u92 u93 u94 u95 u96 u97 u98 u99 u100 u101 u102 u103 u104 u105 u106 u107 u108 u109 u110 u111 u112 u114 u115 u116 u117 u118 u119 u120 u121 u122 u123 u124 u125 u126 u127 u128 u129 u131 u132 u133 u134 u136 u137 u138 u139 u140 u141 u142 u144 u145 u146 u147 u148 u149 u150 u151 u152 u153 u154 u155 u156 u157 u158 u159 u160 u161 u162 u163 u165 u166 u167 u168 u169 u170 u171 u172 u173 u174 u175 u176 u177 u178 u179 u180 u181 u182 u183 u184 u185 u186 u187 u188 u189 u190 u191 u192 u193 u194 u195 u196 u197 u198 u199 u200 u201 u202 u203 u204 u205 u206 u207 u208 u209 u210 u211 u212 u213 u214 u215 u216 u217 u218 u219 u220 u221 u222 u223 u224 u225 u226 u227 u228 u229 u230 u231 u232 u233 u234 u235 u236 u237 u238 u239 u240 u241 u242 u243 u244 u245 u246 u247 u248 u249 u250 u251 u252 u253 u254 u255 u256 u257 u258 u259 u260 u261 : Value) (line : ByteArray) (pos mark depth : Int) (w : World) (L : ByteArray) (g : Nat) (W1 : World) (r0 r : Rd)
    (HOK : Aside0 r.Ok) (HS : Aside0 (r.s = L)) (hp0 : 0 ≤ r.pos) (hlt : r.pos < (L.size : Int)) (hLz : L.size ≤ 1000000) (q : ByteArray) (M be : Int)
    (HM : Aside0 (begM q = M)) (HBE : Aside0 ((if M = 0 then 0 else r.pos + begN 3 q 0 + ((quot M).size : Int)) = be)) (HQ : Aside0 (L.extract r.pos.toNat L.size = q)) (ch : Int)
    (hx : ∀ (h : r.pos.toNat < L.size), ((L[r.pos.toNat]'h).toNat : Int) = ch) (HCH : Aside0 (bt L r.pos = ch)) (hpq : (0 ≤ r.pos) = True) (hlq : (r.pos < (L.size : Int)) = True) (w2 : World)
    (H2 : Aside0 (OutAt g w2 g r)) (HB2 : Aside0 (Below g W1 w2)) (HBL : Aside0 (¬(r.mark = 0 ∧ (ch = 32 ∨ ch = 9 ∨ ch = 12 ∨ ch = 13))))
    (J K' : Act → World → Prop) (hJ : ∀ (a' : Act) (w' : World), (∃ u11 u13 u14 u16 u17 u18 u19 u38 u39 u40 u41 u42 u43 u44 u45 u46 u47 u48 u49 u50 u51 u52 u53 u54 u55 u56 u57 u58 u59 u60 u61 u62 u63 u64 u65 u66 u67 u68 u69 u70 u71 u72 u73 u74 u75 u76 u77 u78 u79 u80 u81 u82 u83 u84 u85 u86 u87 u88 u89 u90 u91 u92 u93 u94 u95 u96 u97 u98 u99 u100 u101 u102 u103 u104 u105 u106 u107 u108 u109 u110 u111 u112 u113 u114 u115 u116 u117 u118 u119 u120 u121 u122 u123 u124 u125 u126 u127 u128 u129 u130 u131 u132 u133 u134 u135 u136 u137 u138 u139 u140 u141 u142 u143 u144 u145 u146 u147 u148 u149 u150 u151 u152 u153 u154 u155 u156 u157 u158 u159 u160 u161 u162 u163 u164 u165 u166 u167 u168 u169 u170 u171 u172 u173 u174 u175 u176 u177 u178 u179 u180 u181 u182 u183 u184 u185 u186 u187 u188 u189 u190 u191 u192 u193 u194 u195 u196 u197 u198 u199 u200 u201 u202 u203 u204 u205 u206 u207 u208 u209 u210 u211 u212 u213 u214 u215 u216 u217 u218 u219 u220 u221 u222 u223 u224 u225 u226 u227 u228 u229 u230 u231 u232 u233 u234 u235 u236 u237 u238 u239 u240 u241 u242 u243 u244 u245 u246 u247 u248 u249 u250 u251 u252 u253 u254 u255 u256 u257 u258 u259 u260, (∃ r2 K T, u11 = Value.int IntKind.i64 r.pos ∧ u13 = Value.int IntKind.u8 K ∧ u14 = Value.int IntKind.i64 T ∧ Aside0 (OutAt g w' g r2) ∧ Aside0 (Below g W1 w') ∧ Aside0 (r.step = r2.leaf K T) ∧ Aside0 (r2.s = r.s ∧ r2.pos = r.pos ∧ r2.ev = r.ev) ∧ 0 ≤ T ∧ T ≤ ↑L.size) ∧ a' = { tmps := List.toArray (Value.string line :: Value.int IntKind.i64 pos :: Value.int IntKind.u8 mark :: Value.int IntKind.i64 depth :: undef :: undef :: undef :: undef :: Value.pointer (some { block := w.heap.size, off := 0 }) :: Value.string L :: Value.pointer (some { block := g, off := 0 }) :: u11 :: Value.int IntKind.u8 ch :: u13 :: u14 :: Value.int IntKind.u8 M :: u16 :: u17 :: u18 :: u19 :: u20 :: u21 :: u22 :: u23 :: u24 :: u25 :: u26 :: u27 :: u28 :: u29 :: u30 :: u31 :: u32 :: u33 :: u34 :: u35 :: Value.int IntKind.i64 pos :: Value.int IntKind.i64 r0.pos :: u38 :: u39 :: u40 :: u41 :: u42 :: u43 :: u44 :: u45 :: u46 :: u47 :: u48 :: u49 :: u50 :: u51 :: u52 :: u53 :: u54 :: u55 :: u56 :: u57 :: u58 :: u59 :: u60 :: u61 :: u62 :: u63 :: u64 :: u65 :: u66 :: u67 :: u68 :: u69 :: u70 :: u71 :: u72 :: u73 :: u74 :: u75 :: u76 :: u77 :: u78 :: u79 :: u80 :: u81 :: u82 :: u83 :: u84 :: u85 :: u86 :: u87 :: u88 :: u89 :: u90 :: u91 :: u92 :: u93 :: u94 :: u95 :: u96 :: u97 :: u98 :: u99 :: u100 :: u101 :: u102 :: u103 :: u104 :: u105 :: u106 :: u107 :: u108 :: u109 :: u110 :: u111 :: u112 :: u113 :: u114 :: u115 :: u116 :: u117 :: u118 :: u119 :: u120 :: u121 :: u122 :: u123 :: u124 :: u125 :: u126 :: u127 :: u128 :: u129 :: u130 :: u131 :: u132 :: u133 :: u134 :: u135 :: u136 :: u137 :: u138 :: u139 :: u140 :: u141 :: u142 :: u143 :: u144 :: u145 :: u146 :: u147 :: u148 :: u149 :: u150 :: u151 :: u152 :: u153 :: u154 :: u155 :: u156 :: u157 :: u158 :: u159 :: u160 :: u161 :: u162 :: u163 :: u164 :: u165 :: u166 :: u167 :: u168 :: u169 :: u170 :: u171 :: u172 :: u173 :: u174 :: u175 :: u176 :: u177 :: u178 :: u179 :: u180 :: u181 :: u182 :: u183 :: u184 :: u185 :: u186 :: u187 :: u188 :: u189 :: u190 :: u191 :: u192 :: u193 :: u194 :: u195 :: u196 :: u197 :: u198 :: u199 :: u200 :: u201 :: u202 :: u203 :: u204 :: u205 :: u206 :: u207 :: u208 :: u209 :: u210 :: u211 :: u212 :: u213 :: u214 :: u215 :: u216 :: u217 :: u218 :: u219 :: u220 :: u221 :: u222 :: u223 :: u224 :: u225 :: u226 :: u227 :: u228 :: u229 :: u230 :: u231 :: u232 :: u233 :: u234 :: u235 :: u236 :: u237 :: u238 :: u239 :: u240 :: u241 :: u242 :: u243 :: u244 :: u245 :: u246 :: u247 :: u248 :: u249 :: u250 :: u251 :: u252 :: u253 :: u254 :: u255 :: u256 :: u257 :: u258 :: u259 :: u260 :: u261 :: []), defers := [] }) → J a' w') (hK : ∀ (a' : Act) (w' : World), Met J a' w' → K' a' w') (Qr : Exit → Act → World → Prop)
    (hmk : r.mark = 0) (c35 : ¬ ch = 35) (c92 : ¬ ch = 92) (hM : M = 0) (hlv : letterB ch = false) (hnb0 : numB q = false) (hop : ¬ opAt opL q < 47) (C : Code) (hC : C = ((condB 164 ((Try.f11.body).getD .skip)).getD .skip)) : Code.wp Try.prog C (Exit.inBlock 2 (Exit.then K' Qr)) { tmps := List.toArray (Value.string line :: Value.int IntKind.i64 pos :: Value.int IntKind.u8 mark :: Value.int IntKind.i64 depth :: undef :: undef :: undef :: undef :: Value.pointer (some { block := w.heap.size, off := 0 }) :: Value.string L :: Value.pointer (some { block := g, off := 0 }) :: Value.int IntKind.i64 r.pos :: Value.int IntKind.u8 ch :: Value.int IntKind.u8 2 :: Value.int IntKind.i64 (r.pos + 1) :: Value.int IntKind.u8 M :: Value.int IntKind.i64 be :: u17 :: u18 :: u19 :: u20 :: u21 :: u22 :: u23 :: u24 :: u25 :: u26 :: u27 :: u28 :: u29 :: u30 :: u31 :: u32 :: u33 :: u34 :: u35 :: Value.int IntKind.i64 pos :: Value.int IntKind.i64 r0.pos :: u38 :: u39 :: u40 :: u41 :: u42 :: u43 :: u44 :: u45 :: u46 :: u47 :: u48 :: u49 :: u50 :: u51 :: u52 :: Value.bool false :: u54 :: u55 :: u56 :: u57 :: u58 :: u59 :: u60 :: u61 :: u62 :: u63 :: u64 :: u65 :: u66 :: u67 :: u68 :: u69 :: u70 :: u71 :: u72 :: u73 :: u74 :: u75 :: u76 :: u77 :: u78 :: u79 :: u80 :: u81 :: u82 :: u83 :: u84 :: u85 :: u86 :: u87 :: u88 :: u89 :: u90 :: u91 :: u92 :: u93 :: u94 :: u95 :: u96 :: u97 :: u98 :: u99 :: u100 :: u101 :: u102 :: u103 :: u104 :: u105 :: u106 :: u107 :: u108 :: u109 :: u110 :: u111 :: u112 :: Value.bool false :: u114 :: u115 :: u116 :: u117 :: u118 :: u119 :: u120 :: u121 :: u122 :: u123 :: u124 :: u125 :: u126 :: u127 :: u128 :: u129 :: Value.bool false :: u131 :: u132 :: u133 :: u134 :: Value.bool false :: u136 :: u137 :: u138 :: u139 :: u140 :: u141 :: u142 :: Value.bool false :: u144 :: u145 :: u146 :: u147 :: u148 :: u149 :: u150 :: u151 :: u152 :: u153 :: u154 :: u155 :: u156 :: u157 :: u158 :: u159 :: u160 :: u161 :: u162 :: u163 :: Value.bool false :: u165 :: u166 :: u167 :: u168 :: u169 :: u170 :: u171 :: u172 :: u173 :: u174 :: u175 :: u176 :: u177 :: u178 :: u179 :: u180 :: u181 :: u182 :: u183 :: u184 :: u185 :: u186 :: u187 :: u188 :: u189 :: u190 :: u191 :: u192 :: u193 :: u194 :: u195 :: u196 :: u197 :: u198 :: u199 :: u200 :: u201 :: u202 :: u203 :: u204 :: u205 :: u206 :: u207 :: u208 :: u209 :: u210 :: u211 :: u212 :: u213 :: u214 :: u215 :: u216 :: u217 :: u218 :: u219 :: u220 :: u221 :: u222 :: u223 :: u224 :: u225 :: u226 :: u227 :: u228 :: u229 :: u230 :: u231 :: u232 :: u233 :: u234 :: u235 :: u236 :: u237 :: u238 :: u239 :: u240 :: u241 :: u242 :: u243 :: u244 :: u245 :: u246 :: u247 :: u248 :: u249 :: u250 :: u251 :: u252 :: u253 :: u254 :: u255 :: u256 :: u257 :: u258 :: u259 :: u260 :: u261 :: []), defers := [] } w2 := by
  subst hC
  conv => arg 2; whnf
  let Qz : Exit → Act → World → Prop := bodyPost Try.prog Try.f11 fun _ _ => True
  obtain ⟨A, c, hr, hh, c0, c1, c2, c3, c4, c5, hf⟩ := H2.out.open
  clear hr hh c0 c3 c4 c5
  clear c1 c2 hf
  have hrest : r.rest = q := by unfold Rd.rest; rw [HS.out]; exact HQ.out
  have hcc : r.c = ch := by unfold Rd.c; rw [HS.out]; exact HCH.out
  have HREST := Aside0.mk hrest
  have HCC := Aside0.mk hcc
  have HRNG : Aside0 (0 ≤ ch ∧ ch ≤ 255) := ⟨by rw [← HCH.out]; exact bt_range L r.pos⟩
  have hT1 : 0 ≤ r.pos + 1 ∧ r.pos + 1 ≤ (L.size : Int) := by omega
  clear hrest hcc
  have hmb : (r.mark != 0) = false := bne_eq_false_iff_eq.mpr hmk
  have hme : (r.mark == 0) = true := beq_iff_eq.mpr hmk
  have hblank : blankB ch = false := by
    have := HBL.out
    unfold blankB
    simp only [Bool.or_eq_false_iff, decide_eq_false_iff_not]
    omega
  have HMK := Aside0.mk hmk
  have HBK := Aside0.mk hblank
  clear hmk hblank HBL
  have hB : (ch = 32) = False ∧ (ch = 9) = False ∧ (ch = 12) = False ∧ (ch = 13) = False := by
    have := HBK.out
    unfold blankB at this
    simp only [Bool.or_eq_false_iff, decide_eq_false_iff_not] at this
    exact ⟨eq_false this.1, eq_false this.2.1, eq_false this.2.2.1, eq_false this.2.2.2⟩
  have n32 : (ch != 32) = true := bne_iff_ne.mpr (of_eq_false hB.1)
  have n9 : (ch != 9) = true := bne_iff_ne.mpr (of_eq_false hB.2.1)
  have n12 : (ch != 12) = true := bne_iff_ne.mpr (of_eq_false hB.2.2.1)
  have n13 : (ch != 13) = true := bne_iff_ne.mpr (of_eq_false hB.2.2.2)
  have n35 : (ch != 35) = true := bne_iff_ne.mpr c35
  have n92 : (ch != 92) = true := bne_iff_ne.mpr c92
  have C35 := Aside0.mk c35
  have C92 := Aside0.mk c92
  clear hB c35 c92
  have hMb : (M != 0) = false := bne_eq_false_iff_eq.mpr hM
  have HM0 : Aside0 (begM r.rest = 0) := ⟨by rw [HREST.out, HM.out]; exact hM⟩
  have e32 : (ch == 32) = false := by simpa using n32
  have e9 : (ch == 9) = false := by simpa using n9
  have e12 : (ch == 12) = false := by simpa using n12
  have e13 : (ch == 13) = false := by simpa using n13
  have e35 : (ch == 35) = false := by simpa using n35
  have e92 : (ch == 92) = false := by simpa using n92
  clear hM
  have hlet := fun w' => refLetter_c ch HRNG.out w'
  rw [hlv] at hlet
  have HLET := Aside0.mk hlet
  have HLV := Aside0.mk hlv
  clear hlet hlv
  obtain ⟨nb, hnb, hnbv⟩ : ∃ nb, numB q = nb ∧ nb = false := ⟨_, rfl, hnb0⟩
  subst hnbv
  have hq0 : bt q 0 = ch := by rw [← HCH.out, ← HQ.out, bt_rest L r.pos 0 hp0 (Int.le_refl _) (by omega), Int.add_zero]
  have hq1 : bt q 1 = bt L (r.pos + 1) := by rw [← HQ.out, bt_rest L r.pos 1 hp0 (by omega) (by omega)]
  have hqz : (q.size : Int) = (L.size : Int) - r.pos := by rw [← HQ.out, ByteArray.size_extract]; omega
  have hnb2 := hnb
  unfold numB at hnb2
  rw [hq0, hq1] at hnb2
  have HNB := Aside0.mk hnb
  have HNB2 := Aside0.mk hnb2
  have HQZ := Aside0.mk hqz
  have HQ0 := Aside0.mk hq0
  clear hnb hnb2 hqz hq0 hq1
  have nb_dummy := True.intro
  have H3 := H2
  have HB3 := HB2
  clear H2 HB2
  have hov := fun w' => refOper_c L r.pos hLz hp0 hlt w'
  rw [HQ.out] at hov
  rw [if_neg hop] at hov
  have HOV := Aside0.mk hov
  have HST : Aside0 (r.step = r.leaf 2 (r.pos + 1)) := ⟨by rw [step_other r HMK.out (by rw [HCC.out]; exact HBK.out) (by rw [HCC.out]; exact C35.out) (by rw [HCC.out]; exact C92.out) HM0.out (by rw [HCC.out]; exact HLV.out) (by rw [HREST.out]; exact HNB.out) (by rw [HREST.out]; exact hop)]⟩
  clear hov hop
  go_wp2_with (fail)
  refine (HOV.out _).mono ?_
  rintro _ w4 ⟨rfl, hb⟩
  have H4 := Aside0.mk (H3.out.below hb)
  have HB4 := Aside0.mk (HB3.out.trans (hb.mono (by have := H3.out.lt; omega)))
  clear hb H3 HB3
  go_wp2_with (fail)
  go_meet
  case rel => exact ⟨r, 2, r.pos + 1, rfl, rfl, rfl, H4, HB4, HST, ⟨rfl, rfl, rfl⟩, hT1.1, hT1.2⟩

end Go.Proofs.Ytdknppomjcpihaa.PPy

namespace Go.Proofs.Ytdknppomjcpihaa.PPy
open Go.RowKit Go.Proofs.YtdknppomjcpihaaW.PrintWords Go.Proofs.YtdknppomjcpihaaW.PrintLast Go.Proofs.YtdknppomjcpihaaW.PrintMore
attribute [local go_sem] max2_int min2_int max_two min_two max_three min_three max_four min_four
set_option linter.unusedVariables false

set_option maxRecDepth 100000 in
set_option maxHeartbeats 4000000 in
theorem ref_num (u17 u18 u19 u20 u21 u22 u23 u24 u25 u26 u27 u28 u29 u30 u31 u32 u33 u34 u35 u53 u54 u55 u56 u57 u58 u59 u60 u61 u62 u63 u64 u65 u66 u67 u68 u69 u70 u71 u72 u73 u74 u75 u76 u77 u78 u79 u80 u81 u82 u83 u84 u85 u86 u87 u88 u89 u90 u91 u92 u93 u94 u95 u96 u97 u98 u99 u100 u101 u102 u103 u104 u105 u106 u107 u108 u109 u110 u111 u112 u113 u114 u115 u116 u117 u118 u119 u120 u121 u122 u123 u124 u125 u126 u127 u128 u129 u130 u131 u132 u133 u134 u135 u136 u137 u138 u139 u140 u141 u142 u143 u144 u145 u146 u147 u148 u149 u150 u151 u152 u153 u154 u155 u156 u157 u158 u159 u160 u161 u162 u163 u164 u165 u166 u167 u168 u169 u170 u171 u172 u173 u174 u175 u176 u177 u178 u179 u180 u181 u182 u183 u184 u185 u186 u187 u188 u189 u190 u191 u192 u193 u194 u195 u196 u197 u198 u199 u200 u201 u202 u203 u204 u205 u206 u207 u208 u209 u210 u211 u212 u213 u214 u215 u216 u217 u218 u219 u220 u221 u222 u223 u224 u225 u226 u227 u228 u229 u230 u231 u232 u233 u234 u235 u236 u237 u238 u239 u240 u241 u242 u243 u244 u245 u246 u247 u248 u249 u250 u251 u252 u253 u254 u255 u256 u257 u258 u259 u260 u261 : Value) (line : ByteArray) (pos mark depth : Int) (w : World) (L : ByteArray) (g : Nat) (W1 : World) (r0 r : Rd)
    (HOK : Aside0 r.Ok) (HS : Aside0 (r.s = L)) (hp0 : 0 ≤ r.pos) (hlt : r.pos < (L.size : Int)) (hLz : L.size ≤ 1000000) (q : ByteArray) (M be : Int)
    (HM : Aside0 (begM q = M)) (HBE : Aside0 ((if M = 0 then 0 else r.pos + begN 3 q 0 + ((quot M).size : Int)) = be)) (HQ : Aside0 (L.extract r.pos.toNat L.size = q)) (ch : Int)
    (hx : ∀ (h : r.pos.toNat < L.size), ((L[r.pos.toNat]'h).toNat : Int) = ch) (HCH : Aside0 (bt L r.pos = ch)) (hpq : (0 ≤ r.pos) = True) (hlq : (r.pos < (L.size : Int)) = True) (w2 : World)
    (H2 : Aside0 (OutAt g w2 g r)) (HB2 : Aside0 (Below g W1 w2)) (HBL : Aside0 (¬(r.mark = 0 ∧ (ch = 32 ∨ ch = 9 ∨ ch = 12 ∨ ch = 13))))
    (J K' : Act → World → Prop) (hJ : ∀ (a' : Act) (w' : World), (∃ u11 u13 u14 u16 u17 u18 u19 u38 u39 u40 u41 u42 u43 u44 u45 u46 u47 u48 u49 u50 u51 u52 u53 u54 u55 u56 u57 u58 u59 u60 u61 u62 u63 u64 u65 u66 u67 u68 u69 u70 u71 u72 u73 u74 u75 u76 u77 u78 u79 u80 u81 u82 u83 u84 u85 u86 u87 u88 u89 u90 u91 u92 u93 u94 u95 u96 u97 u98 u99 u100 u101 u102 u103 u104 u105 u106 u107 u108 u109 u110 u111 u112 u113 u114 u115 u116 u117 u118 u119 u120 u121 u122 u123 u124 u125 u126 u127 u128 u129 u130 u131 u132 u133 u134 u135 u136 u137 u138 u139 u140 u141 u142 u143 u144 u145 u146 u147 u148 u149 u150 u151 u152 u153 u154 u155 u156 u157 u158 u159 u160 u161 u162 u163 u164 u165 u166 u167 u168 u169 u170 u171 u172 u173 u174 u175 u176 u177 u178 u179 u180 u181 u182 u183 u184 u185 u186 u187 u188 u189 u190 u191 u192 u193 u194 u195 u196 u197 u198 u199 u200 u201 u202 u203 u204 u205 u206 u207 u208 u209 u210 u211 u212 u213 u214 u215 u216 u217 u218 u219 u220 u221 u222 u223 u224 u225 u226 u227 u228 u229 u230 u231 u232 u233 u234 u235 u236 u237 u238 u239 u240 u241 u242 u243 u244 u245 u246 u247 u248 u249 u250 u251 u252 u253 u254 u255 u256 u257 u258 u259 u260, (∃ r2 K T, u11 = Value.int IntKind.i64 r.pos ∧ u13 = Value.int IntKind.u8 K ∧ u14 = Value.int IntKind.i64 T ∧ Aside0 (OutAt g w' g r2) ∧ Aside0 (Below g W1 w') ∧ Aside0 (r.step = r2.leaf K T) ∧ Aside0 (r2.s = r.s ∧ r2.pos = r.pos ∧ r2.ev = r.ev) ∧ 0 ≤ T ∧ T ≤ ↑L.size) ∧ a' = { tmps := List.toArray (Value.string line :: Value.int IntKind.i64 pos :: Value.int IntKind.u8 mark :: Value.int IntKind.i64 depth :: undef :: undef :: undef :: undef :: Value.pointer (some { block := w.heap.size, off := 0 }) :: Value.string L :: Value.pointer (some { block := g, off := 0 }) :: u11 :: Value.int IntKind.u8 ch :: u13 :: u14 :: Value.int IntKind.u8 M :: u16 :: u17 :: u18 :: u19 :: u20 :: u21 :: u22 :: u23 :: u24 :: u25 :: u26 :: u27 :: u28 :: u29 :: u30 :: u31 :: u32 :: u33 :: u34 :: u35 :: Value.int IntKind.i64 pos :: Value.int IntKind.i64 r0.pos :: u38 :: u39 :: u40 :: u41 :: u42 :: u43 :: u44 :: u45 :: u46 :: u47 :: u48 :: u49 :: u50 :: u51 :: u52 :: u53 :: u54 :: u55 :: u56 :: u57 :: u58 :: u59 :: u60 :: u61 :: u62 :: u63 :: u64 :: u65 :: u66 :: u67 :: u68 :: u69 :: u70 :: u71 :: u72 :: u73 :: u74 :: u75 :: u76 :: u77 :: u78 :: u79 :: u80 :: u81 :: u82 :: u83 :: u84 :: u85 :: u86 :: u87 :: u88 :: u89 :: u90 :: u91 :: u92 :: u93 :: u94 :: u95 :: u96 :: u97 :: u98 :: u99 :: u100 :: u101 :: u102 :: u103 :: u104 :: u105 :: u106 :: u107 :: u108 :: u109 :: u110 :: u111 :: u112 :: u113 :: u114 :: u115 :: u116 :: u117 :: u118 :: u119 :: u120 :: u121 :: u122 :: u123 :: u124 :: u125 :: u126 :: u127 :: u128 :: u129 :: u130 :: u131 :: u132 :: u133 :: u134 :: u135 :: u136 :: u137 :: u138 :: u139 :: u140 :: u141 :: u142 :: u143 :: u144 :: u145 :: u146 :: u147 :: u148 :: u149 :: u150 :: u151 :: u152 :: u153 :: u154 :: u155 :: u156 :: u157 :: u158 :: u159 :: u160 :: u161 :: u162 :: u163 :: u164 :: u165 :: u166 :: u167 :: u168 :: u169 :: u170 :: u171 :: u172 :: u173 :: u174 :: u175 :: u176 :: u177 :: u178 :: u179 :: u180 :: u181 :: u182 :: u183 :: u184 :: u185 :: u186 :: u187 :: u188 :: u189 :: u190 :: u191 :: u192 :: u193 :: u194 :: u195 :: u196 :: u197 :: u198 :: u199 :: u200 :: u201 :: u202 :: u203 :: u204 :: u205 :: u206 :: u207 :: u208 :: u209 :: u210 :: u211 :: u212 :: u213 :: u214 :: u215 :: u216 :: u217 :: u218 :: u219 :: u220 :: u221 :: u222 :: u223 :: u224 :: u225 :: u226 :: u227 :: u228 :: u229 :: u230 :: u231 :: u232 :: u233 :: u234 :: u235 :: u236 :: u237 :: u238 :: u239 :: u240 :: u241 :: u242 :: u243 :: u244 :: u245 :: u246 :: u247 :: u248 :: u249 :: u250 :: u251 :: u252 :: u253 :: u254 :: u255 :: u256 :: u257 :: u258 :: u259 :: u260 :: u261 :: []), defers := [] }) → J a' w') (hK : ∀ (a' : Act) (w' : World), Met J a' w' → K' a' w') (Qr : Exit → Act → World → Prop)
    (hmk : r.mark = 0) (c35 : ¬ ch = 35) (c92 : ¬ ch = 92) (hM : M = 0) (hlv : letterB ch = false) (C : Code) (hC : C = ((findB 2 ((Try.f11.body).getD .skip)).getD .skip)) : Code.wp Try.prog C (Exit.then K' Qr) { tmps := List.toArray (Value.string line :: Value.int IntKind.i64 pos :: Value.int IntKind.u8 mark :: Value.int IntKind.i64 depth :: undef :: undef :: undef :: undef :: Value.pointer (some { block := w.heap.size, off := 0 }) :: Value.string L :: Value.pointer (some { block := g, off := 0 }) :: Value.int IntKind.i64 r.pos :: Value.int IntKind.u8 ch :: Value.int IntKind.u8 2 :: Value.int IntKind.i64 (r.pos + 1) :: Value.int IntKind.u8 M :: Value.int IntKind.i64 be :: u17 :: u18 :: u19 :: u20 :: u21 :: u22 :: u23 :: u24 :: u25 :: u26 :: u27 :: u28 :: u29 :: u30 :: u31 :: u32 :: u33 :: u34 :: u35 :: Value.int IntKind.i64 pos :: Value.int IntKind.i64 r0.pos :: Value.int IntKind.i64 r.pos :: Value.string L :: Value.int IntKind.i64 ↑L.size :: Value.bool true :: Value.string L :: Value.int IntKind.i64 r.pos :: Value.int IntKind.u8 ch :: Value.int IntKind.i64 r.pos :: Value.int IntKind.i64 (r.pos + 1) :: Value.tuple #[Value.int IntKind.u8 M, Value.int IntKind.i64 be] :: Value.string L :: Value.int IntKind.i64 r.pos :: Value.tuple #[Value.int IntKind.u8 M, Value.int IntKind.i64 be] :: Value.int IntKind.u8 M :: Value.int IntKind.i64 be :: u53 :: u54 :: u55 :: u56 :: u57 :: u58 :: u59 :: u60 :: u61 :: u62 :: u63 :: u64 :: u65 :: u66 :: u67 :: u68 :: u69 :: u70 :: u71 :: u72 :: u73 :: u74 :: u75 :: u76 :: u77 :: u78 :: u79 :: u80 :: u81 :: u82 :: u83 :: u84 :: u85 :: u86 :: u87 :: u88 :: u89 :: u90 :: u91 :: u92 :: u93 :: u94 :: u95 :: u96 :: u97 :: u98 :: u99 :: u100 :: u101 :: u102 :: u103 :: u104 :: u105 :: u106 :: u107 :: u108 :: u109 :: u110 :: u111 :: u112 :: u113 :: u114 :: u115 :: u116 :: u117 :: u118 :: u119 :: u120 :: u121 :: u122 :: u123 :: u124 :: u125 :: u126 :: u127 :: u128 :: u129 :: u130 :: u131 :: u132 :: u133 :: u134 :: u135 :: u136 :: u137 :: u138 :: u139 :: u140 :: u141 :: u142 :: u143 :: u144 :: u145 :: u146 :: u147 :: u148 :: u149 :: u150 :: u151 :: u152 :: u153 :: u154 :: u155 :: u156 :: u157 :: u158 :: u159 :: u160 :: u161 :: u162 :: u163 :: u164 :: u165 :: u166 :: u167 :: u168 :: u169 :: u170 :: u171 :: u172 :: u173 :: u174 :: u175 :: u176 :: u177 :: u178 :: u179 :: u180 :: u181 :: u182 :: u183 :: u184 :: u185 :: u186 :: u187 :: u188 :: u189 :: u190 :: u191 :: u192 :: u193 :: u194 :: u195 :: u196 :: u197 :: u198 :: u199 :: u200 :: u201 :: u202 :: u203 :: u204 :: u205 :: u206 :: u207 :: u208 :: u209 :: u210 :: u211 :: u212 :: u213 :: u214 :: u215 :: u216 :: u217 :: u218 :: u219 :: u220 :: u221 :: u222 :: u223 :: u224 :: u225 :: u226 :: u227 :: u228 :: u229 :: u230 :: u231 :: u232 :: u233 :: u234 :: u235 :: u236 :: u237 :: u238 :: u239 :: u240 :: u241 :: u242 :: u243 :: u244 :: u245 :: u246 :: u247 :: u248 :: u249 :: u250 :: u251 :: u252 :: u253 :: u254 :: u255 :: u256 :: u257 :: u258 :: u259 :: u260 :: u261 :: []), defers := [] } w2 := by
  subst hC
  conv => arg 2; whnf
  obtain ⟨A, c, hr, hh, c0, c1, c2, c3, c4, c5, hf⟩ := H2.out.open
  clear hr hh c0 c3 c4 c5
  let Qz : Exit → Act → World → Prop := bodyPost Try.prog Try.f11 fun _ _ => True
  have HBL9 := HBL
  have hM9 := Aside0.mk hM
  have hrest : r.rest = q := by unfold Rd.rest; rw [HS.out]; exact HQ.out
  have hcc : r.c = ch := by unfold Rd.c; rw [HS.out]; exact HCH.out
  have HREST := Aside0.mk hrest
  have HCC := Aside0.mk hcc
  have HRNG : Aside0 (0 ≤ ch ∧ ch ≤ 255) := ⟨by rw [← HCH.out]; exact bt_range L r.pos⟩
  have hT1 : 0 ≤ r.pos + 1 ∧ r.pos + 1 ≤ (L.size : Int) := by omega
  clear hrest hcc
  have hmb : (r.mark != 0) = false := bne_eq_false_iff_eq.mpr hmk
  have hme : (r.mark == 0) = true := beq_iff_eq.mpr hmk
  have hblank : blankB ch = false := by
    have := HBL.out
    unfold blankB
    simp only [Bool.or_eq_false_iff, decide_eq_false_iff_not]
    omega
  have HMK := Aside0.mk hmk
  have HBK := Aside0.mk hblank
  clear hmk hblank HBL
  have hB : (ch = 32) = False ∧ (ch = 9) = False ∧ (ch = 12) = False ∧ (ch = 13) = False := by
    have := HBK.out
    unfold blankB at this
    simp only [Bool.or_eq_false_iff, decide_eq_false_iff_not] at this
    exact ⟨eq_false this.1, eq_false this.2.1, eq_false this.2.2.1, eq_false this.2.2.2⟩
  have n32 : (ch != 32) = true := bne_iff_ne.mpr (of_eq_false hB.1)
  have n9 : (ch != 9) = true := bne_iff_ne.mpr (of_eq_false hB.2.1)
  have n12 : (ch != 12) = true := bne_iff_ne.mpr (of_eq_false hB.2.2.1)
  have n13 : (ch != 13) = true := bne_iff_ne.mpr (of_eq_false hB.2.2.2)
  have n35 : (ch != 35) = true := bne_iff_ne.mpr c35
  have n92 : (ch != 92) = true := bne_iff_ne.mpr c92
  have C35 := Aside0.mk c35
  have C92 := Aside0.mk c92
  clear hB c35 c92
  have hMb : (M != 0) = false := bne_eq_false_iff_eq.mpr hM
  have HM0 : Aside0 (begM r.rest = 0) := ⟨by rw [HREST.out, HM.out]; exact hM⟩
  have e32 : (ch == 32) = false := by simpa using n32
  have e9 : (ch == 9) = false := by simpa using n9
  have e12 : (ch == 12) = false := by simpa using n12
  have e13 : (ch == 13) = false := by simpa using n13
  have e35 : (ch == 35) = false := by simpa using n35
  have e92 : (ch == 92) = false := by simpa using n92
  clear hM
  have hlet := fun w' => refLetter_c ch HRNG.out w'
  rw [hlv] at hlet
  have HLET := Aside0.mk hlet
  have HLV := Aside0.mk hlv
  clear hlet hlv
  obtain ⟨nb, hnb⟩ : ∃ nb, numB q = nb := ⟨_, rfl⟩
  have hq0 : bt q 0 = ch := by rw [← HCH.out, ← HQ.out, bt_rest L r.pos 0 hp0 (Int.le_refl _) (by omega), Int.add_zero]
  have hq1 : bt q 1 = bt L (r.pos + 1) := by rw [← HQ.out, bt_rest L r.pos 1 hp0 (by omega) (by omega)]
  have hqz : (q.size : Int) = (L.size : Int) - r.pos := by rw [← HQ.out, ByteArray.size_extract]; omega
  have hnb2 := hnb
  unfold numB at hnb2
  rw [hq0, hq1] at hnb2
  have HNB := Aside0.mk hnb
  have HNB2 := Aside0.mk hnb2
  have HQZ := Aside0.mk hqz
  have HQ0 := Aside0.mk hq0
  clear hnb hnb2 hqz hq0 hq1
  go_upto_region 43 with (fail)
  refine (HLET.out _).mono ?_
  rintro _ w3 ⟨rfl, hd⟩
  have H3 := Aside0.mk (H2.out.drawn hd)
  have HB3 := Aside0.mk (HB2.out.trans (drawn_below hd))
  clear hd H2 HB2 c1 c2 hf
  go_upto_region 43 with (fail)
  rename_i K9 hK9
  go_cut [164] (fun v164 wc => v164 = .bool nb ∧ Aside0 (OutAt g wc g r) ∧ Aside0 (Below g W1 wc))
  case first =>
    cases hdv : digitB ch with
    | true =>
      have hdig := fun w' => refDigit_c ch w'
      rw [hdv] at hdig
      have HDIG := Aside0.mk hdig
      have HE : Aside0 (nb = true) := ⟨by rw [← HNB2.out, hdv]; rfl⟩
      clear hdig hdv
      go_wp2_with (fail)
      refine (HDIG.out _).mono ?_
      rintro _ w4 ⟨rfl, hd⟩
      have H4 := Aside0.mk (H3.out.drawn hd)
      have HB4 := Aside0.mk (HB3.out.trans (drawn_below hd))
      clear hd H3 HB3
      go_wp2_with (fail)
      go_meet
      case rel => exact ⟨by rw [HE.out], H4, HB4⟩
    | false =>
      have hdig := fun w' => refDigit_c ch w'
      rw [hdv] at hdig
      have HDIG := Aside0.mk hdig
      by_cases c46 : ch = 46
      · subst c46
        by_cases hl2 : r.pos + 1 < (L.size : Int)
        · have hl2b : decide (r.pos + 1 < (L.size : Int)) = true := decide_eq_true hl2
          have hxi := bt_at L (r.pos + 1)
          obtain ⟨ci, hci⟩ : ∃ ci, bt L (r.pos + 1) = ci := ⟨_, rfl⟩
          have HE : Aside0 (nb = digitB ci) := ⟨by rw [← HNB2.out, hdv, hci, decide_eq_true (show 2 ≤ q.size by have := HQZ.out; omega)]; rfl⟩
          rw [hci] at hxi
          have pi : 0 ≤ r.pos + 1 := by omega
          have qi : r.pos + 1 < (L.size : Int) := hl2
          replace pi := eq_true pi
          replace qi := eq_true qi
          have hdig2 := fun w' => refDigit_c ci w'
          have HDIG2 := Aside0.mk hdig2
          clear hci hdig hdv hl2 hdig2
          go_wp2_with (fail)
          refine (HDIG.out _).mono ?_
          rintro _ w4 ⟨rfl, hd⟩
          have H4 := Aside0.mk (H3.out.drawn hd)
          have HB4 := Aside0.mk (HB3.out.trans (drawn_below hd))
          clear hd H3 HB3
          go_wp2_with (fail)
          refine (HDIG2.out _).mono ?_
          rintro _ w5 ⟨rfl, hd⟩
          have H5 := Aside0.mk (H4.out.drawn hd)
          have HB5 := Aside0.mk (HB4.out.trans (drawn_below hd))
          clear hd H4 HB4
          go_wp2_with (fail)
          go_meet
          case rel => exact ⟨by rw [HE.out], H5, HB5⟩
        · have hl2b : decide (r.pos + 1 < (L.size : Int)) = false := decide_eq_false hl2
          have HE : Aside0 (nb = false) := ⟨by rw [← HNB2.out, hdv, decide_eq_false (show ¬ 2 ≤ q.size by have := HQZ.out; omega)]; rfl⟩
          clear hdig hdv hl2
          go_wp2_with (fail)
          refine (HDIG.out _).mono ?_
          rintro _ w4 ⟨rfl, hd⟩
          have H4 := Aside0.mk (H3.out.drawn hd)
          have HB4 := Aside0.mk (HB3.out.trans (drawn_below hd))
          clear hd H3 HB3
          go_wp2_with (fail)
          go_meet
          case rel => exact ⟨by rw [HE.out], H4, HB4⟩
      · have e46 : (ch == 46) = false := beq_eq_false_iff_ne.mpr c46
        have HE : Aside0 (nb = false) := ⟨by rw [← HNB2.out, hdv, decide_eq_false c46]; rfl⟩
        clear hdig hdv c46
        go_wp2_with (fail)
        refine (HDIG.out _).mono ?_
        rintro _ w4 ⟨rfl, hd⟩
        have H4 := Aside0.mk (H3.out.drawn hd)
        have HB4 := Aside0.mk (HB3.out.trans (drawn_below hd))
        clear hd H3 HB3
        go_wp2_with (fail)
        go_meet
        case rel => exact ⟨by rw [HE.out], H4, HB4⟩
  case rest =>
    obtain ⟨rfl, H3, HB3⟩ := hcut
    refine hK9 _ _ ?_
    cases nb with
    | true => exact ref_nt _ _ _ _ _ _ _ _ _ _ _ _ _ _ _ _ _ _ _ _ _ _ _ _ _ _ _ _ _ _ _ _ _ _ _ _ _ _ _ _ _ _ _ _ _ _ _ _ _ _ _ _ _ _ _ _ _ _ _ _ _ _ _ _ _ _ _ _ _ _ _ _ _ _ _ _ _ _ _ _ _ _ _ _ _ _ _ _ _ _ _ _ _ _ _ _ _ _ _ _ _ _ _ _ _ _ _ _ _ _ _ _ _ _ _ _ _ _ _ _ _ _ _ _ _ _ _ _ _ _ _ _ _ _ _ _ _ _ _ _ _ _ _ _ _ _ _ _ _ _ _ _ _ _ _ _ _ _ _ _ _ _ _ _ _ _ _ _ _ _ _ _ _ _ _ _ _ _ _ _ _ _ _ _ _ _ _ _ _ _ _ _ _ _ _ _ _ _ _ _ _ _ _ _ _ _ _ _ _ _ _ _ _ _ _ _ _ _ _ _ _ _ _ _ _ _ _ _ _ _ _ _ _ _ _ _ _ line pos mark depth w L g W1 r0 r HOK HS hp0 hlt hLz q M be HM HBE HQ ch hx HCH hpq hlq wc H3 HB3 HBL9 J K' hJ hK _ HMK.out C35.out C92.out hM9.out HLV.out HNB.out _ (by kernel_rfl)
    | false =>
      by_cases hop : opAt opL q < 47
      · exact ref_no _ _ _ _ _ _ _ _ _ _ _ _ _ _ _ _ _ _ _ _ _ _ _ _ _ _ _ _ _ _ _ _ _ _ _ _ _ _ _ _ _ _ _ _ _ _ _ _ _ _ _ _ _ _ _ _ _ _ _ _ _ _ _ _ _ _ _ _ _ _ _ _ _ _ _ _ _ _ _ _ _ _ _ _ _ _ _ _ _ _ _ _ _ _ _ _ _ _ _ _ _ _ _ _ _ _ _ _ _ _ _ _ _ _ _ _ _ _ _ _ _ _ _ _ _ _ _ _ _ _ _ _ _ _ _ _ _ _ _ _ _ _ _ _ _ _ _ _ _ _ _ _ _ _ _ _ _ _ _ _ _ _ _ _ _ _ _ _ _ _ _ _ _ _ _ _ _ _ _ _ _ _ _ _ _ _ _ _ _ _ _ _ _ _ _ _ _ _ _ _ _ _ _ _ _ _ _ _ _ _ _ _ _ _ _ _ _ _ _ _ _ _ _ _ _ _ _ _ _ _ _ _ _ _ _ _ _ line pos mark depth w L g W1 r0 r HOK HS hp0 hlt hLz q M be HM HBE HQ ch hx HCH hpq hlq wc H3 HB3 HBL9 J K' hJ hK _ HMK.out C35.out C92.out hM9.out HLV.out HNB.out hop _ (by kernel_rfl)
      · exact ref_nx _ _ _ _ _ _ _ _ _ _ _ _ _ _ _ _ _ _ _ _ _ _ _ _ _ _ _ _ _ _ _ _ _ _ _ _ _ _ _ _ _ _ _ _ _ _ _ _ _ _ _ _ _ _ _ _ _ _ _ _ _ _ _ _ _ _ _ _ _ _ _ _ _ _ _ _ _ _ _ _ _ _ _ _ _ _ _ _ _ _ _ _ _ _ _ _ _ _ _ _ _ _ _ _ _ _ _ _ _ _ _ _ _ _ _ _ _ _ _ _ _ _ _ _ _ _ _ _ _ _ _ _ _ _ _ _ _ _ _ _ _ _ _ _ _ _ _ _ _ _ _ _ _ _ _ _ _ _ _ _ _ _ _ _ _ _ _ _ _ _ _ _ _ _ _ _ _ _ _ _ _ _ _ _ _ _ _ _ _ _ _ _ _ _ _ _ _ _ _ _ _ _ _ _ _ _ _ _ _ _ _ _ _ _ _ _ _ _ _ _ _ _ _ _ _ _ _ _ _ _ _ _ _ _ _ _ _ line pos mark depth w L g W1 r0 r HOK HS hp0 hlt hLz q M be HM HBE HQ ch hx HCH hpq hlq wc H3 HB3 HBL9 J K' hJ hK _ HMK.out C35.out C92.out hM9.out HLV.out HNB.out hop _ (by kernel_rfl)

end Go.Proofs.Ytdknppomjcpihaa.PPy
