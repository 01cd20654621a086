/- The document's Scan: comments and a line that goes on. -/
import Derived.Test.YtdknppomjcpihaaRefQ
namespace Go.Proofs.Ytdknppomjcpihaa.PPy
open Go.RowKit Go.Proofs.YtdknppomjcpihaaW.PrintWords Go.Proofs.YtdknppomjcpihaaW.PrintLast Go.Proofs.YtdknppomjcpihaaW.PrintMore
attribute [local go_sem] max2_int min2_int max_two min_two max_three min_three max_four min_four
set_option linter.unusedVariables false

set_option maxRecDepth 100000 in
set_option maxHeartbeats 4000000 in
theorem ref_35 (u17 u18 u19 u20 u21 u22 u23 u24 u25 u26 u27 u28 u29 u30 u31 u32 u33 u34 u35 u53 u54 u55 u56 u57 u58 u59 u60 u61 u62 u63 u64 u65 u66 u67 u68 u69 u70 u71 u72 u73 u74 u75 u76 u77 u78 u79 u80 u81 u82 u83 u84 u85 u86 u87 u88 u89 u90 u91 u92 u93 u94 u95 u96 u97 u98 u99 u100 u101 u102 u103 u104 u105 u106 u107 u108 u109 u110 u111 u112 u113 u114 u115 u116 u117 u118 u119 u120 u121 u122 u123 u124 u125 u126 u127 u128 u129 u130 u131 u132 u133 u134 u135 u136 u137 u138 u139 u140 u141 u142 u143 u144 u145 u146 u147 u148 u149 u150 u151 u152 u153 u154 u155 u156 u157 u158 u159 u160 u161 u162 u163 u164 u165 u166 u167 u168 u169 u170 u171 u172 u173 u174 u175 u176 u177 u178 u179 u180 u181 u182 u183 u184 u185 u186 u187 u188 u189 u190 u191 u192 u193 u194 u195 u196 u197 u198 u199 u200 u201 u202 u203 u204 u205 u206 u207 u208 u209 u210 u211 u212 u213 u214 u215 u216 u217 u218 u219 u220 u221 u222 u223 u224 u225 u226 u227 u228 u229 u230 u231 u232 u233 u234 u235 u236 u237 u238 u239 u240 u241 u242 u243 u244 u245 u246 u247 u248 u249 u250 u251 u252 u253 u254 u255 u256 u257 u258 u259 u260 u261 : Value) (line : ByteArray) (pos mark depth : Int) (w : World) (L : ByteArray) (g : Nat) (W1 : World) (r0 r : Rd)
    (HOK : Aside0 r.Ok) (HS : Aside0 (r.s = L)) (hp0 : 0 ≤ r.pos) (hlt : r.pos < (L.size : Int)) (hLz : L.size ≤ 1000000) (q : ByteArray) (M be : Int)
    (HM : Aside0 (begM q = M)) (HBE : Aside0 ((if M = 0 then 0 else r.pos + begN 3 q 0 + ((quot M).size : Int)) = be)) (HQ : Aside0 (L.extract r.pos.toNat L.size = q)) (ch : Int)
    (hx : ∀ (h : r.pos.toNat < L.size), ((L[r.pos.toNat]'h).toNat : Int) = ch) (HCH : Aside0 (bt L r.pos = ch)) (hpq : (0 ≤ r.pos) = True) (hlq : (r.pos < (L.size : Int)) = True) (w2 : World)
    (H2 : Aside0 (OutAt g w2 g r)) (HB2 : Aside0 (Below g W1 w2)) (HBL : Aside0 (¬(r.mark = 0 ∧ (ch = 32 ∨ ch = 9 ∨ ch = 12 ∨ ch = 13))))
    (J K' : Act → World → Prop) (hJ : ∀ (a' : Act) (w' : World), (∃ u11 u13 u14 u16 u17 u18 u19 u38 u39 u40 u41 u42 u43 u44 u45 u46 u47 u48 u49 u50 u51 u52 u53 u54 u55 u56 u57 u58 u59 u60 u61 u62 u63 u64 u65 u66 u67 u68 u69 u70 u71 u72 u73 u74 u75 u76 u77 u78 u79 u80 u81 u82 u83 u84 u85 u86 u87 u88 u89 u90 u91 u92 u93 u94 u95 u96 u97 u98 u99 u100 u101 u102 u103 u104 u105 u106 u107 u108 u109 u110 u111 u112 u113 u114 u115 u116 u117 u118 u119 u120 u121 u122 u123 u124 u125 u126 u127 u128 u129 u130 u131 u132 u133 u134 u135 u136 u137 u138 u139 u140 u141 u142 u143 u144 u145 u146 u147 u148 u149 u150 u151 u152 u153 u154 u155 u156 u157 u158 u159 u160 u161 u162 u163 u164 u165 u166 u167 u168 u169 u170 u171 u172 u173 u174 u175 u176 u177 u178 u179 u180 u181 u182 u183 u184 u185 u186 u187 u188 u189 u190 u191 u192 u193 u194 u195 u196 u197 u198 u199 u200 u201 u202 u203 u204 u205 u206 u207 u208 u209 u210 u211 u212 u213 u214 u215 u216 u217 u218 u219 u220 u221 u222 u223 u224 u225 u226 u227 u228 u229 u230 u231 u232 u233 u234 u235 u236 u237 u238 u239 u240 u241 u242 u243 u244 u245 u246 u247 u248 u249 u250 u251 u252 u253 u254 u255 u256 u257 u258 u259 u260, (∃ r2 K T, u11 = Value.int IntKind.i64 r.pos ∧ u13 = Value.int IntKind.u8 K ∧ u14 = Value.int IntKind.i64 T ∧ Aside0 (OutAt g w' g r2) ∧ Aside0 (Below g W1 w') ∧ Aside0 (r.step = r2.leaf K T) ∧ Aside0 (r2.s = r.s ∧ r2.pos = r.pos ∧ r2.ev = r.ev) ∧ 0 ≤ T ∧ T ≤ ↑L.size) ∧ a' = { tmps := List.toArray (Value.string line :: Value.int IntKind.i64 pos :: Value.int IntKind.u8 mark :: Value.int IntKind.i64 depth :: undef :: undef :: undef :: undef :: Value.pointer (some { block := w.heap.size, off := 0 }) :: Value.string L :: Value.pointer (some { block := g, off := 0 }) :: u11 :: Value.int IntKind.u8 ch :: u13 :: u14 :: Value.int IntKind.u8 M :: u16 :: u17 :: u18 :: u19 :: u20 :: u21 :: u22 :: u23 :: u24 :: u25 :: u26 :: u27 :: u28 :: u29 :: u30 :: u31 :: u32 :: u33 :: u34 :: u35 :: Value.int IntKind.i64 pos :: Value.int IntKind.i64 r0.pos :: u38 :: u39 :: u40 :: u41 :: u42 :: u43 :: u44 :: u45 :: u46 :: u47 :: u48 :: u49 :: u50 :: u51 :: u52 :: u53 :: u54 :: u55 :: u56 :: u57 :: u58 :: u59 :: u60 :: u61 :: u62 :: u63 :: u64 :: u65 :: u66 :: u67 :: u68 :: u69 :: u70 :: u71 :: u72 :: u73 :: u74 :: u75 :: u76 :: u77 :: u78 :: u79 :: u80 :: u81 :: u82 :: u83 :: u84 :: u85 :: u86 :: u87 :: u88 :: u89 :: u90 :: u91 :: u92 :: u93 :: u94 :: u95 :: u96 :: u97 :: u98 :: u99 :: u100 :: u101 :: u102 :: u103 :: u104 :: u105 :: u106 :: u107 :: u108 :: u109 :: u110 :: u111 :: u112 :: u113 :: u114 :: u115 :: u116 :: u117 :: u118 :: u119 :: u120 :: u121 :: u122 :: u123 :: u124 :: u125 :: u126 :: u127 :: u128 :: u129 :: u130 :: u131 :: u132 :: u133 :: u134 :: u135 :: u136 :: u137 :: u138 :: u139 :: u140 :: u141 :: u142 :: u143 :: u144 :: u145 :: u146 :: u147 :: u148 :: u149 :: u150 :: u151 :: u152 :: u153 :: u154 :: u155 :: u156 :: u157 :: u158 :: u159 :: u160 :: u161 :: u162 :: u163 :: u164 :: u165 :: u166 :: u167 :: u168 :: u169 :: u170 :: u171 :: u172 :: u173 :: u174 :: u175 :: u176 :: u177 :: u178 :: u179 :: u180 :: u181 :: u182 :: u183 :: u184 :: u185 :: u186 :: u187 :: u188 :: u189 :: u190 :: u191 :: u192 :: u193 :: u194 :: u195 :: u196 :: u197 :: u198 :: u199 :: u200 :: u201 :: u202 :: u203 :: u204 :: u205 :: u206 :: u207 :: u208 :: u209 :: u210 :: u211 :: u212 :: u213 :: u214 :: u215 :: u216 :: u217 :: u218 :: u219 :: u220 :: u221 :: u222 :: u223 :: u224 :: u225 :: u226 :: u227 :: u228 :: u229 :: u230 :: u231 :: u232 :: u233 :: u234 :: u235 :: u236 :: u237 :: u238 :: u239 :: u240 :: u241 :: u242 :: u243 :: u244 :: u245 :: u246 :: u247 :: u248 :: u249 :: u250 :: u251 :: u252 :: u253 :: u254 :: u255 :: u256 :: u257 :: u258 :: u259 :: u260 :: u261 :: []), defers := [] }) → J a' w') (hK : ∀ (a' : Act) (w' : World), Met J a' w' → K' a' w') (Qr : Exit → Act → World → Prop)
    (hmk : r.mark = 0) (c35 : ch = 35) (C : Code) (hC : C = ((findB 2 ((Try.f11.body).getD .skip)).getD .skip)) : Code.wp Try.prog C (Exit.then K' Qr) { tmps := List.toArray (Value.string line :: Value.int IntKind.i64 pos :: Value.int IntKind.u8 mark :: Value.int IntKind.i64 depth :: undef :: undef :: undef :: undef :: Value.pointer (some { block := w.heap.size, off := 0 }) :: Value.string L :: Value.pointer (some { block := g, off := 0 }) :: Value.int IntKind.i64 r.pos :: Value.int IntKind.u8 ch :: Value.int IntKind.u8 2 :: Value.int IntKind.i64 (r.pos + 1) :: Value.int IntKind.u8 M :: Value.int IntKind.i64 be :: u17 :: u18 :: u19 :: u20 :: u21 :: u22 :: u23 :: u24 :: u25 :: u26 :: u27 :: u28 :: u29 :: u30 :: u31 :: u32 :: u33 :: u34 :: u35 :: Value.int IntKind.i64 pos :: Value.int IntKind.i64 r0.pos :: Value.int IntKind.i64 r.pos :: Value.string L :: Value.int IntKind.i64 ↑L.size :: Value.bool true :: Value.string L :: Value.int IntKind.i64 r.pos :: Value.int IntKind.u8 ch :: Value.int IntKind.i64 r.pos :: Value.int IntKind.i64 (r.pos + 1) :: Value.tuple #[Value.int IntKind.u8 M, Value.int IntKind.i64 be] :: Value.string L :: Value.int IntKind.i64 r.pos :: Value.tuple #[Value.int IntKind.u8 M, Value.int IntKind.i64 be] :: Value.int IntKind.u8 M :: Value.int IntKind.i64 be :: u53 :: u54 :: u55 :: u56 :: u57 :: u58 :: u59 :: u60 :: u61 :: u62 :: u63 :: u64 :: u65 :: u66 :: u67 :: u68 :: u69 :: u70 :: u71 :: u72 :: u73 :: u74 :: u75 :: u76 :: u77 :: u78 :: u79 :: u80 :: u81 :: u82 :: u83 :: u84 :: u85 :: u86 :: u87 :: u88 :: u89 :: u90 :: u91 :: u92 :: u93 :: u94 :: u95 :: u96 :: u97 :: u98 :: u99 :: u100 :: u101 :: u102 :: u103 :: u104 :: u105 :: u106 :: u107 :: u108 :: u109 :: u110 :: u111 :: u112 :: u113 :: u114 :: u115 :: u116 :: u117 :: u118 :: u119 :: u120 :: u121 :: u122 :: u123 :: u124 :: u125 :: u126 :: u127 :: u128 :: u129 :: u130 :: u131 :: u132 :: u133 :: u134 :: u135 :: u136 :: u137 :: u138 :: u139 :: u140 :: u141 :: u142 :: u143 :: u144 :: u145 :: u146 :: u147 :: u148 :: u149 :: u150 :: u151 :: u152 :: u153 :: u154 :: u155 :: u156 :: u157 :: u158 :: u159 :: u160 :: u161 :: u162 :: u163 :: u164 :: u165 :: u166 :: u167 :: u168 :: u169 :: u170 :: u171 :: u172 :: u173 :: u174 :: u175 :: u176 :: u177 :: u178 :: u179 :: u180 :: u181 :: u182 :: u183 :: u184 :: u185 :: u186 :: u187 :: u188 :: u189 :: u190 :: u191 :: u192 :: u193 :: u194 :: u195 :: u196 :: u197 :: u198 :: u199 :: u200 :: u201 :: u202 :: u203 :: u204 :: u205 :: u206 :: u207 :: u208 :: u209 :: u210 :: u211 :: u212 :: u213 :: u214 :: u215 :: u216 :: u217 :: u218 :: u219 :: u220 :: u221 :: u222 :: u223 :: u224 :: u225 :: u226 :: u227 :: u228 :: u229 :: u230 :: u231 :: u232 :: u233 :: u234 :: u235 :: u236 :: u237 :: u238 :: u239 :: u240 :: u241 :: u242 :: u243 :: u244 :: u245 :: u246 :: u247 :: u248 :: u249 :: u250 :: u251 :: u252 :: u253 :: u254 :: u255 :: u256 :: u257 :: u258 :: u259 :: u260 :: u261 :: []), defers := [] } w2 := by
  subst hC
  conv => arg 2; whnf
  obtain ⟨A, c, hr, hh, c0, c1, c2, c3, c4, c5, hf⟩ := H2.out.open
  clear hr hh c0 c3 c4 c5
  have hrest : r.rest = q := by unfold Rd.rest; rw [HS.out]; exact HQ.out
  have hcc : r.c = ch := by unfold Rd.c; rw [HS.out]; exact HCH.out
  have HREST := Aside0.mk hrest
  have HCC := Aside0.mk hcc
  have HRNG : Aside0 (0 ≤ ch ∧ ch ≤ 255) := ⟨by rw [← HCH.out]; exact bt_range L r.pos⟩
  have hT1 : 0 ≤ r.pos + 1 ∧ r.pos + 1 ≤ (L.size : Int) := by omega
  clear hrest hcc
  have hmb : (r.mark != 0) = false := bne_eq_false_iff_eq.mpr hmk
  have hme : (r.mark == 0) = true := beq_iff_eq.mpr hmk
  have hblank : blankB ch = false := by
    have := HBL.out
    unfold blankB
    simp only [Bool.or_eq_false_iff, decide_eq_false_iff_not]
    omega
  have HMK := Aside0.mk hmk
  have HBK := Aside0.mk hblank
  clear hmk hblank HBL
  subst c35
  go_wp2_with (fail)
  go_meet
  case rel => exact ⟨r, 18, (L.size : Int), rfl, rfl, rfl, H2, HB2, ⟨by rw [step_c35 r HMK.out HCC.out, HS.out]⟩, ⟨rfl, rfl, rfl⟩, by omega, by omega⟩

set_option maxRecDepth 100000 in
set_option maxHeartbeats 4000000 in
theorem ref_92 (u17 u18 u19 u20 u21 u22 u23 u24 u25 u26 u27 u28 u29 u30 u31 u32 u33 u34 u35 u53 u54 u55 u56 u57 u58 u59 u60 u61 u62 u63 u64 u65 u66 u67 u68 u69 u70 u71 u72 u73 u74 u75 u76 u77 u78 u79 u80 u81 u82 u83 u84 u85 u86 u87 u88 u89 u90 u91 u92 u93 u94 u95 u96 u97 u98 u99 u100 u101 u102 u103 u104 u105 u106 u107 u108 u109 u110 u111 u112 u113 u114 u115 u116 u117 u118 u119 u120 u121 u122 u123 u124 u125 u126 u127 u128 u129 u130 u131 u132 u133 u134 u135 u136 u137 u138 u139 u140 u141 u142 u143 u144 u145 u146 u147 u148 u149 u150 u151 u152 u153 u154 u155 u156 u157 u158 u159 u160 u161 u162 u163 u164 u165 u166 u167 u168 u169 u170 u171 u172 u173 u174 u175 u176 u177 u178 u179 u180 u181 u182 u183 u184 u185 u186 u187 u188 u189 u190 u191 u192 u193 u194 u195 u196 u197 u198 u199 u200 u201 u202 u203 u204 u205 u206 u207 u208 u209 u210 u211 u212 u213 u214 u215 u216 u217 u218 u219 u220 u221 u222 u223 u224 u225 u226 u227 u228 u229 u230 u231 u232 u233 u234 u235 u236 u237 u238 u239 u240 u241 u242 u243 u244 u245 u246 u247 u248 u249 u250 u251 u252 u253 u254 u255 u256 u257 u258 u259 u260 u261 : Value) (line : ByteArray) (pos mark depth : Int) (w : World) (L : ByteArray) (g : Nat) (W1 : World) (r0 r : Rd)
    (HOK : Aside0 r.Ok) (HS : Aside0 (r.s = L)) (hp0 : 0 ≤ r.pos) (hlt : r.pos < (L.size : Int)) (hLz : L.size ≤ 1000000) (q : ByteArray) (M be : Int)
    (HM : Aside0 (begM q = M)) (HBE : Aside0 ((if M = 0 then 0 else r.pos + begN 3 q 0 + ((quot M).size : Int)) = be)) (HQ : Aside0 (L.extract r.pos.toNat L.size = q)) (ch : Int)
    (hx : ∀ (h : r.pos.toNat < L.size), ((L[r.pos.toNat]'h).toNat : Int) = ch) (HCH : Aside0 (bt L r.pos = ch)) (hpq : (0 ≤ r.pos) = True) (hlq : (r.pos < (L.size : Int)) = True) (w2 : World)
    (H2 : Aside0 (OutAt g w2 g r)) (HB2 : Aside0 (Below g W1 w2)) (HBL : Aside0 (¬(r.mark = 0 ∧ (ch = 32 ∨ ch = 9 ∨ ch = 12 ∨ ch = 13))))
    (J K' : Act → World → Prop) (hJ : ∀ (a' : Act) (w' : World), (∃ u11 u13 u14 u16 u17 u18 u19 u38 u39 u40 u41 u42 u43 u44 u45 u46 u47 u48 u49 u50 u51 u52 u53 u54 u55 u56 u57 u58 u59 u60 u61 u62 u63 u64 u65 u66 u67 u68 u69 u70 u71 u72 u73 u74 u75 u76 u77 u78 u79 u80 u81 u82 u83 u84 u85 u86 u87 u88 u89 u90 u91 u92 u93 u94 u95 u96 u97 u98 u99 u100 u101 u102 u103 u104 u105 u106 u107 u108 u109 u110 u111 u112 u113 u114 u115 u116 u117 u118 u119 u120 u121 u122 u123 u124 u125 u126 u127 u128 u129 u130 u131 u132 u133 u134 u135 u136 u137 u138 u139 u140 u141 u142 u143 u144 u145 u146 u147 u148 u149 u150 u151 u152 u153 u154 u155 u156 u157 u158 u159 u160 u161 u162 u163 u164 u165 u166 u167 u168 u169 u170 u171 u172 u173 u174 u175 u176 u177 u178 u179 u180 u181 u182 u183 u184 u185 u186 u187 u188 u189 u190 u191 u192 u193 u194 u195 u196 u197 u198 u199 u200 u201 u202 u203 u204 u205 u206 u207 u208 u209 u210 u211 u212 u213 u214 u215 u216 u217 u218 u219 u220 u221 u222 u223 u224 u225 u226 u227 u228 u229 u230 u231 u232 u233 u234 u235 u236 u237 u238 u239 u240 u241 u242 u243 u244 u245 u246 u247 u248 u249 u250 u251 u252 u253 u254 u255 u256 u257 u258 u259 u260, (∃ r2 K T, u11 = Value.int IntKind.i64 r.pos ∧ u13 = Value.int IntKind.u8 K ∧ u14 = Value.int IntKind.i64 T ∧ Aside0 (OutAt g w' g r2) ∧ Aside0 (Below g W1 w') ∧ Aside0 (r.step = r2.leaf K T) ∧ Aside0 (r2.s = r.s ∧ r2.pos = r.pos ∧ r2.ev = r.ev) ∧ 0 ≤ T ∧ T ≤ ↑L.size) ∧ a' = { tmps := List.toArray (Value.string line :: Value.int IntKind.i64 pos :: Value.int IntKind.u8 mark :: Value.int IntKind.i64 depth :: undef :: undef :: undef :: undef :: Value.pointer (some { block := w.heap.size, off := 0 }) :: Value.string L :: Value.pointer (some { block := g, off := 0 }) :: u11 :: Value.int IntKind.u8 ch :: u13 :: u14 :: Value.int IntKind.u8 M :: u16 :: u17 :: u18 :: u19 :: u20 :: u21 :: u22 :: u23 :: u24 :: u25 :: u26 :: u27 :: u28 :: u29 :: u30 :: u31 :: u32 :: u33 :: u34 :: u35 :: Value.int IntKind.i64 pos :: Value.int IntKind.i64 r0.pos :: u38 :: u39 :: u40 :: u41 :: u42 :: u43 :: u44 :: u45 :: u46 :: u47 :: u48 :: u49 :: u50 :: u51 :: u52 :: u53 :: u54 :: u55 :: u56 :: u57 :: u58 :: u59 :: u60 :: u61 :: u62 :: u63 :: u64 :: u65 :: u66 :: u67 :: u68 :: u69 :: u70 :: u71 :: u72 :: u73 :: u74 :: u75 :: u76 :: u77 :: u78 :: u79 :: u80 :: u81 :: u82 :: u83 :: u84 :: u85 :: u86 :: u87 :: u88 :: u89 :: u90 :: u91 :: u92 :: u93 :: u94 :: u95 :: u96 :: u97 :: u98 :: u99 :: u100 :: u101 :: u102 :: u103 :: u104 :: u105 :: u106 :: u107 :: u108 :: u109 :: u110 :: u111 :: u112 :: u113 :: u114 :: u115 :: u116 :: u117 :: u118 :: u119 :: u120 :: u121 :: u122 :: u123 :: u124 :: u125 :: u126 :: u127 :: u128 :: u129 :: u130 :: u131 :: u132 :: u133 :: u134 :: u135 :: u136 :: u137 :: u138 :: u139 :: u140 :: u141 :: u142 :: u143 :: u144 :: u145 :: u146 :: u147 :: u148 :: u149 :: u150 :: u151 :: u152 :: u153 :: u154 :: u155 :: u156 :: u157 :: u158 :: u159 :: u160 :: u161 :: u162 :: u163 :: u164 :: u165 :: u166 :: u167 :: u168 :: u169 :: u170 :: u171 :: u172 :: u173 :: u174 :: u175 :: u176 :: u177 :: u178 :: u179 :: u180 :: u181 :: u182 :: u183 :: u184 :: u185 :: u186 :: u187 :: u188 :: u189 :: u190 :: u191 :: u192 :: u193 :: u194 :: u195 :: u196 :: u197 :: u198 :: u199 :: u200 :: u201 :: u202 :: u203 :: u204 :: u205 :: u206 :: u207 :: u208 :: u209 :: u210 :: u211 :: u212 :: u213 :: u214 :: u215 :: u216 :: u217 :: u218 :: u219 :: u220 :: u221 :: u222 :: u223 :: u224 :: u225 :: u226 :: u227 :: u228 :: u229 :: u230 :: u231 :: u232 :: u233 :: u234 :: u235 :: u236 :: u237 :: u238 :: u239 :: u240 :: u241 :: u242 :: u243 :: u244 :: u245 :: u246 :: u247 :: u248 :: u249 :: u250 :: u251 :: u252 :: u253 :: u254 :: u255 :: u256 :: u257 :: u258 :: u259 :: u260 :: u261 :: []), defers := [] }) → J a' w') (hK : ∀ (a' : Act) (w' : World), Met J a' w' → K' a' w') (Qr : Exit → Act → World → Prop)
    (hmk : r.mark = 0) (c35 : ¬ ch = 35) (c92 : ch = 92) (C : Code) (hC : C = ((findB 2 ((Try.f11.body).getD .skip)).getD .skip)) : Code.wp Try.prog C (Exit.then K' Qr) { tmps := List.toArray (Value.string line :: Value.int IntKind.i64 pos :: Value.int IntKind.u8 mark :: Value.int IntKind.i64 depth :: undef :: undef :: undef :: undef :: Value.pointer (some { block := w.heap.size, off := 0 }) :: Value.string L :: Value.pointer (some { block := g, off := 0 }) :: Value.int IntKind.i64 r.pos :: Value.int IntKind.u8 ch :: Value.int IntKind.u8 2 :: Value.int IntKind.i64 (r.pos + 1) :: Value.int IntKind.u8 M :: Value.int IntKind.i64 be :: u17 :: u18 :: u19 :: u20 :: u21 :: u22 :: u23 :: u24 :: u25 :: u26 :: u27 :: u28 :: u29 :: u30 :: u31 :: u32 :: u33 :: u34 :: u35 :: Value.int IntKind.i64 pos :: Value.int IntKind.i64 r0.pos :: Value.int IntKind.i64 r.pos :: Value.string L :: Value.int IntKind.i64 ↑L.size :: Value.bool true :: Value.string L :: Value.int IntKind.i64 r.pos :: Value.int IntKind.u8 ch :: Value.int IntKind.i64 r.pos :: Value.int IntKind.i64 (r.pos + 1) :: Value.tuple #[Value.int IntKind.u8 M, Value.int IntKind.i64 be] :: Value.string L :: Value.int IntKind.i64 r.pos :: Value.tuple #[Value.int IntKind.u8 M, Value.int IntKind.i64 be] :: Value.int IntKind.u8 M :: Value.int IntKind.i64 be :: u53 :: u54 :: u55 :: u56 :: u57 :: u58 :: u59 :: u60 :: u61 :: u62 :: u63 :: u64 :: u65 :: u66 :: u67 :: u68 :: u69 :: u70 :: u71 :: u72 :: u73 :: u74 :: u75 :: u76 :: u77 :: u78 :: u79 :: u80 :: u81 :: u82 :: u83 :: u84 :: u85 :: u86 :: u87 :: u88 :: u89 :: u90 :: u91 :: u92 :: u93 :: u94 :: u95 :: u96 :: u97 :: u98 :: u99 :: u100 :: u101 :: u102 :: u103 :: u104 :: u105 :: u106 :: u107 :: u108 :: u109 :: u110 :: u111 :: u112 :: u113 :: u114 :: u115 :: u116 :: u117 :: u118 :: u119 :: u120 :: u121 :: u122 :: u123 :: u124 :: u125 :: u126 :: u127 :: u128 :: u129 :: u130 :: u131 :: u132 :: u133 :: u134 :: u135 :: u136 :: u137 :: u138 :: u139 :: u140 :: u141 :: u142 :: u143 :: u144 :: u145 :: u146 :: u147 :: u148 :: u149 :: u150 :: u151 :: u152 :: u153 :: u154 :: u155 :: u156 :: u157 :: u158 :: u159 :: u160 :: u161 :: u162 :: u163 :: u164 :: u165 :: u166 :: u167 :: u168 :: u169 :: u170 :: u171 :: u172 :: u173 :: u174 :: u175 :: u176 :: u177 :: u178 :: u179 :: u180 :: u181 :: u182 :: u183 :: u184 :: u185 :: u186 :: u187 :: u188 :: u189 :: u190 :: u191 :: u192 :: u193 :: u194 :: u195 :: u196 :: u197 :: u198 :: u199 :: u200 :: u201 :: u202 :: u203 :: u204 :: u205 :: u206 :: u207 :: u208 :: u209 :: u210 :: u211 :: u212 :: u213 :: u214 :: u215 :: u216 :: u217 :: u218 :: u219 :: u220 :: u221 :: u222 :: u223 :: u224 :: u225 :: u226 :: u227 :: u228 :: u229 :: u230 :: u231 :: u232 :: u233 :: u234 :: u235 :: u236 :: u237 :: u238 :: u239 :: u240 :: u241 :: u242 :: u243 :: u244 :: u245 :: u246 :: u247 :: u248 :: u249 :: u250 :: u251 :: u252 :: u253 :: u254 :: u255 :: u256 :: u257 :: u258 :: u259 :: u260 :: u261 :: []), defers := [] } w2 := by
  subst hC
  conv => arg 2; whnf
  obtain ⟨A, c, hr, hh, c0, c1, c2, c3, c4, c5, hf⟩ := H2.out.open
  clear hr hh c0 c3 c4 c5
  have hrest : r.rest = q := by unfold Rd.rest; rw [HS.out]; exact HQ.out
  have hcc : r.c = ch := by unfold Rd.c; rw [HS.out]; exact HCH.out
  have HREST := Aside0.mk hrest
  have HCC := Aside0.mk hcc
  have HRNG : Aside0 (0 ≤ ch ∧ ch ≤ 255) := ⟨by rw [← HCH.out]; exact bt_range L r.pos⟩
  have hT1 : 0 ≤ r.pos + 1 ∧ r.pos + 1 ≤ (L.size : Int) := by omega
  clear hrest hcc
  have hmb : (r.mark != 0) = false := bne_eq_false_iff_eq.mpr hmk
  have hme : (r.mark == 0) = true := beq_iff_eq.mpr hmk
  have hblank : blankB ch = false := by
    have := HBL.out
    unfold blankB
    simp only [Bool.or_eq_false_iff, decide_eq_false_iff_not]
    omega
  have HMK := Aside0.mk hmk
  have HBK := Aside0.mk hblank
  clear hmk hblank HBL
  subst c92
  by_cases hj : r.pos + 1 = (L.size : Int)
  · have hjb : (r.pos + 1 == (L.size : Int)) = true := beq_iff_eq.mpr hj
    have HJ := Aside0.mk hj
    obtain ⟨_, _, _, _, _, _, _, e3, _, _, _⟩ := H2.out.open
    clear hj
    go_wp2_with (fail)
    go_meet
    case rel => exact ⟨{ r with join := true }, 19, r.pos + 1, rfl, rfl, rfl, ⟨H2.out.setJoin true⟩, ⟨HB2.out.setCell (p := ⟨g, 3, none⟩) (Nat.le_refl _) _⟩, ⟨by rw [step_c92 r HMK.out HCC.out]; unfold Rd.joined; rw [HS.out, if_pos HJ.out, HJ.out]⟩, ⟨rfl, rfl, rfl⟩, by omega, by omega⟩
  · have hjb : (r.pos + 1 == (L.size : Int)) = false := beq_eq_false_iff_ne.mpr hj
    have HJ := Aside0.mk hj
    clear hj
    go_wp2_with (fail)
    go_meet
    case rel => exact ⟨r, 2, r.pos + 1, rfl, rfl, rfl, H2, HB2, ⟨by rw [step_c92 r HMK.out HCC.out]; unfold Rd.joined; rw [HS.out, if_neg HJ.out]⟩, ⟨rfl, rfl, rfl⟩, hT1.1, hT1.2⟩

end Go.Proofs.Ytdknppomjcpihaa.PPy

namespace Go.Proofs.Ytdknppomjcpihaa.PPy
open Go.RowKit Go.Proofs.YtdknppomjcpihaaW.PrintWords Go.Proofs.YtdknppomjcpihaaW.PrintLast Go.Proofs.YtdknppomjcpihaaW.PrintMore
attribute [local go_sem] max2_int min2_int max_two min_two max_three min_three max_four min_four
set_option linter.unusedVariables false

set_option maxRecDepth 100000 in
set_option maxHeartbeats 4000000 in
theorem ref_let (u17 u18 u19 u20 u21 u22 u23 u24 u25 u26 u27 u28 u29 u30 u31 u32 u33 u34 u35 u53 u54 u55 u56 u57 u58 u59 u60 u61 u62 u63 u64 u65 u66 u67 u68 u69 u70 u71 u72 u73 u74 u75 u76 u77 u78 u79 u80 u81 u82 u83 u84 u85 u86 u87 u88 u89 u90 u91 u92 u93 u94 u95 u96 u97 u98 u99 u100 u101 u102 u103 u104 u105 u106 u107 u108 u109 u110 u111 u112 u113 u114 u115 u116 u117 u118 u119 u120 u121 u122 u123 u124 u125 u126 u127 u128 u129 u130 u131 u132 u133 u134 u135 u136 u137 u138 u139 u140 u141 u142 u143 u144 u145 u146 u147 u148 u149 u150 u151 u152 u153 u154 u155 u156 u157 u158 u159 u160 u161 u162 u163 u164 u165 u166 u167 u168 u169 u170 u171 u172 u173 u174 u175 u176 u177 u178 u179 u180 u181 u182 u183 u184 u185 u186 u187 u188 u189 u190 u191 u192 u193 u194 u195 u196 u197 u198 u199 u200 u201 u202 u203 u204 u205 u206 u207 u208 u209 u210 u211 u212 u213 u214 u215 u216 u217 u218 u219 u220 u221 u222 u223 u224 u225 u226 u227 u228 u229 u230 u231 u232 u233 u234 u235 u236 u237 u238 u239 u240 u241 u242 u243 u244 u245 u246 u247 u248 u249 u250 u251 u252 u253 u254 u255 u256 u257 u258 u259 u260 u261 : Value) (line : ByteArray) (pos mark depth : Int) (w : World) (L : ByteArray) (g : Nat) (W1 : World) (r0 r : Rd)
    (HOK : Aside0 r.Ok) (HS : Aside0 (r.s = L)) (hp0 : 0 ≤ r.pos) (hlt : r.pos < (L.size : Int)) (hLz : L.size ≤ 1000000) (q : ByteArray) (M be : Int)
    (HM : Aside0 (begM q = M)) (HBE : Aside0 ((if M = 0 then 0 else r.pos + begN 3 q 0 + ((quot M).size : Int)) = be)) (HQ : Aside0 (L.extract r.pos.toNat L.size = q)) (ch : Int)
    (hx : ∀ (h : r.pos.toNat < L.size), ((L[r.pos.toNat]'h).toNat : Int) = ch) (HCH : Aside0 (bt L r.pos = ch)) (hpq : (0 ≤ r.pos) = True) (hlq : (r.pos < (L.size : Int)) = True) (w2 : World)
    (H2 : Aside0 (OutAt g w2 g r)) (HB2 : Aside0 (Below g W1 w2)) (HBL : Aside0 (¬(r.mark = 0 ∧ (ch = 32 ∨ ch = 9 ∨ ch = 12 ∨ ch = 13))))
    (J K' : Act → World → Prop) (hJ : ∀ (a' : Act) (w' : World), (∃ u11 u13 u14 u16 u17 u18 u19 u38 u39 u40 u41 u42 u43 u44 u45 u46 u47 u48 u49 u50 u51 u52 u53 u54 u55 u56 u57 u58 u59 u60 u61 u62 u63 u64 u65 u66 u67 u68 u69 u70 u71 u72 u73 u74 u75 u76 u77 u78 u79 u80 u81 u82 u83 u84 u85 u86 u87 u88 u89 u90 u91 u92 u93 u94 u95 u96 u97 u98 u99 u100 u101 u102 u103 u104 u105 u106 u107 u108 u109 u110 u111 u112 u113 u114 u115 u116 u117 u118 u119 u120 u121 u122 u123 u124 u125 u126 u127 u128 u129 u130 u131 u132 u133 u134 u135 u136 u137 u138 u139 u140 u141 u142 u143 u144 u145 u146 u147 u148 u149 u150 u151 u152 u153 u154 u155 u156 u157 u158 u159 u160 u161 u162 u163 u164 u165 u166 u167 u168 u169 u170 u171 u172 u173 u174 u175 u176 u177 u178 u179 u180 u181 u182 u183 u184 u185 u186 u187 u188 u189 u190 u191 u192 u193 u194 u195 u196 u197 u198 u199 u200 u201 u202 u203 u204 u205 u206 u207 u208 u209 u210 u211 u212 u213 u214 u215 u216 u217 u218 u219 u220 u221 u222 u223 u224 u225 u226 u227 u228 u229 u230 u231 u232 u233 u234 u235 u236 u237 u238 u239 u240 u241 u242 u243 u244 u245 u246 u247 u248 u249 u250 u251 u252 u253 u254 u255 u256 u257 u258 u259 u260, (∃ r2 K T, u11 = Value.int IntKind.i64 r.pos ∧ u13 = Value.int IntKind.u8 K ∧ u14 = Value.int IntKind.i64 T ∧ Aside0 (OutAt g w' g r2) ∧ Aside0 (Below g W1 w') ∧ Aside0 (r.step = r2.leaf K T) ∧ Aside0 (r2.s = r.s ∧ r2.pos = r.pos ∧ r2.ev = r.ev) ∧ 0 ≤ T ∧ T ≤ ↑L.size) ∧ a' = { tmps := List.toArray (Value.string line :: Value.int IntKind.i64 pos :: Value.int IntKind.u8 mark :: Value.int IntKind.i64 depth :: undef :: undef :: undef :: undef :: Value.pointer (some { block := w.heap.size, off := 0 }) :: Value.string L :: Value.pointer (some { block := g, off := 0 }) :: u11 :: Value.int IntKind.u8 ch :: u13 :: u14 :: Value.int IntKind.u8 M :: u16 :: u17 :: u18 :: u19 :: u20 :: u21 :: u22 :: u23 :: u24 :: u25 :: u26 :: u27 :: u28 :: u29 :: u30 :: u31 :: u32 :: u33 :: u34 :: u35 :: Value.int IntKind.i64 pos :: Value.int IntKind.i64 r0.pos :: u38 :: u39 :: u40 :: u41 :: u42 :: u43 :: u44 :: u45 :: u46 :: u47 :: u48 :: u49 :: u50 :: u51 :: u52 :: u53 :: u54 :: u55 :: u56 :: u57 :: u58 :: u59 :: u60 :: u61 :: u62 :: u63 :: u64 :: u65 :: u66 :: u67 :: u68 :: u69 :: u70 :: u71 :: u72 :: u73 :: u74 :: u75 :: u76 :: u77 :: u78 :: u79 :: u80 :: u81 :: u82 :: u83 :: u84 :: u85 :: u86 :: u87 :: u88 :: u89 :: u90 :: u91 :: u92 :: u93 :: u94 :: u95 :: u96 :: u97 :: u98 :: u99 :: u100 :: u101 :: u102 :: u103 :: u104 :: u105 :: u106 :: u107 :: u108 :: u109 :: u110 :: u111 :: u112 :: u113 :: u114 :: u115 :: u116 :: u117 :: u118 :: u119 :: u120 :: u121 :: u122 :: u123 :: u124 :: u125 :: u126 :: u127 :: u128 :: u129 :: u130 :: u131 :: u132 :: u133 :: u134 :: u135 :: u136 :: u137 :: u138 :: u139 :: u140 :: u141 :: u142 :: u143 :: u144 :: u145 :: u146 :: u147 :: u148 :: u149 :: u150 :: u151 :: u152 :: u153 :: u154 :: u155 :: u156 :: u157 :: u158 :: u159 :: u160 :: u161 :: u162 :: u163 :: u164 :: u165 :: u166 :: u167 :: u168 :: u169 :: u170 :: u171 :: u172 :: u173 :: u174 :: u175 :: u176 :: u177 :: u178 :: u179 :: u180 :: u181 :: u182 :: u183 :: u184 :: u185 :: u186 :: u187 :: u188 :: u189 :: u190 :: u191 :: u192 :: u193 :: u194 :: u195 :: u196 :: u197 :: u198 :: u199 :: u200 :: u201 :: u202 :: u203 :: u204 :: u205 :: u206 :: u207 :: u208 :: u209 :: u210 :: u211 :: u212 :: u213 :: u214 :: u215 :: u216 :: u217 :: u218 :: u219 :: u220 :: u221 :: u222 :: u223 :: u224 :: u225 :: u226 :: u227 :: u228 :: u229 :: u230 :: u231 :: u232 :: u233 :: u234 :: u235 :: u236 :: u237 :: u238 :: u239 :: u240 :: u241 :: u242 :: u243 :: u244 :: u245 :: u246 :: u247 :: u248 :: u249 :: u250 :: u251 :: u252 :: u253 :: u254 :: u255 :: u256 :: u257 :: u258 :: u259 :: u260 :: u261 :: []), defers := [] }) → J a' w') (hK : ∀ (a' : Act) (w' : World), Met J a' w' → K' a' w') (Qr : Exit → Act → World → Prop)
    (hmk : r.mark = 0) (c35 : ¬ ch = 35) (c92 : ¬ ch = 92) (hM : M = 0) (hlv : letterB ch = true) (C : Code) (hC : C = ((findB 2 ((Try.f11.body).getD .skip)).getD .skip)) : Code.wp Try.prog C (Exit.then K' Qr) { tmps := List.toArray (Value.string line :: Value.int IntKind.i64 pos :: Value.int IntKind.u8 mark :: Value.int IntKind.i64 depth :: undef :: undef :: undef :: undef :: Value.pointer (some { block := w.heap.size, off := 0 }) :: Value.string L :: Value.pointer (some { block := g, off := 0 }) :: Value.int IntKind.i64 r.pos :: Value.int IntKind.u8 ch :: Value.int IntKind.u8 2 :: Value.int IntKind.i64 (r.pos + 1) :: Value.int IntKind.u8 M :: Value.int IntKind.i64 be :: u17 :: u18 :: u19 :: u20 :: u21 :: u22 :: u23 :: u24 :: u25 :: u26 :: u27 :: u28 :: u29 :: u30 :: u31 :: u32 :: u33 :: u34 :: u35 :: Value.int IntKind.i64 pos :: Value.int IntKind.i64 r0.pos :: Value.int IntKind.i64 r.pos :: Value.string L :: Value.int IntKind.i64 ↑L.size :: Value.bool true :: Value.string L :: Value.int IntKind.i64 r.pos :: Value.int IntKind.u8 ch :: Value.int IntKind.i64 r.pos :: Value.int IntKind.i64 (r.pos + 1) :: Value.tuple #[Value.int IntKind.u8 M, Value.int IntKind.i64 be] :: Value.string L :: Value.int IntKind.i64 r.pos :: Value.tuple #[Value.int IntKind.u8 M, Value.int IntKind.i64 be] :: Value.int IntKind.u8 M :: Value.int IntKind.i64 be :: u53 :: u54 :: u55 :: u56 :: u57 :: u58 :: u59 :: u60 :: u61 :: u62 :: u63 :: u64 :: u65 :: u66 :: u67 :: u68 :: u69 :: u70 :: u71 :: u72 :: u73 :: u74 :: u75 :: u76 :: u77 :: u78 :: u79 :: u80 :: u81 :: u82 :: u83 :: u84 :: u85 :: u86 :: u87 :: u88 :: u89 :: u90 :: u91 :: u92 :: u93 :: u94 :: u95 :: u96 :: u97 :: u98 :: u99 :: u100 :: u101 :: u102 :: u103 :: u104 :: u105 :: u106 :: u107 :: u108 :: u109 :: u110 :: u111 :: u112 :: u113 :: u114 :: u115 :: u116 :: u117 :: u118 :: u119 :: u120 :: u121 :: u122 :: u123 :: u124 :: u125 :: u126 :: u127 :: u128 :: u129 :: u130 :: u131 :: u132 :: u133 :: u134 :: u135 :: u136 :: u137 :: u138 :: u139 :: u140 :: u141 :: u142 :: u143 :: u144 :: u145 :: u146 :: u147 :: u148 :: u149 :: u150 :: u151 :: u152 :: u153 :: u154 :: u155 :: u156 :: u157 :: u158 :: u159 :: u160 :: u161 :: u162 :: u163 :: u164 :: u165 :: u166 :: u167 :: u168 :: u169 :: u170 :: u171 :: u172 :: u173 :: u174 :: u175 :: u176 :: u177 :: u178 :: u179 :: u180 :: u181 :: u182 :: u183 :: u184 :: u185 :: u186 :: u187 :: u188 :: u189 :: u190 :: u191 :: u192 :: u193 :: u194 :: u195 :: u196 :: u197 :: u198 :: u199 :: u200 :: u201 :: u202 :: u203 :: u204 :: u205 :: u206 :: u207 :: u208 :: u209 :: u210 :: u211 :: u212 :: u213 :: u214 :: u215 :: u216 :: u217 :: u218 :: u219 :: u220 :: u221 :: u222 :: u223 :: u224 :: u225 :: u226 :: u227 :: u228 :: u229 :: u230 :: u231 :: u232 :: u233 :: u234 :: u235 :: u236 :: u237 :: u238 :: u239 :: u240 :: u241 :: u242 :: u243 :: u244 :: u245 :: u246 :: u247 :: u248 :: u249 :: u250 :: u251 :: u252 :: u253 :: u254 :: u255 :: u256 :: u257 :: u258 :: u259 :: u260 :: u261 :: []), defers := [] } w2 := by
  subst hC
  conv => arg 2; whnf
  obtain ⟨A, c, hr, hh, c0, c1, c2, c3, c4, c5, hf⟩ := H2.out.open
  clear hr hh c0 c3 c4 c5
  have hrest : r.rest = q := by unfold Rd.rest; rw [HS.out]; exact HQ.out
  have hcc : r.c = ch := by unfold Rd.c; rw [HS.out]; exact HCH.out
  have HREST := Aside0.mk hrest
  have HCC := Aside0.mk hcc
  have HRNG : Aside0 (0 ≤ ch ∧ ch ≤ 255) := ⟨by rw [← HCH.out]; exact bt_range L r.pos⟩
  have hT1 : 0 ≤ r.pos + 1 ∧ r.pos + 1 ≤ (L.size : Int) := by omega
  clear hrest hcc
  have hmb : (r.mark != 0) = false := bne_eq_false_iff_eq.mpr hmk
  have hme : (r.mark == 0) = true := beq_iff_eq.mpr hmk
  have hblank : blankB ch = false := by
    have := HBL.out
    unfold blankB
    simp only [Bool.or_eq_false_iff, decide_eq_false_iff_not]
    omega
  have HMK := Aside0.mk hmk
  have HBK := Aside0.mk hblank
  clear hmk hblank HBL
  have hB : (ch = 32) = False ∧ (ch = 9) = False ∧ (ch = 12) = False ∧ (ch = 13) = False := by
    have := HBK.out
    unfold blankB at this
    simp only [Bool.or_eq_false_iff, decide_eq_false_iff_not] at this
    exact ⟨eq_false this.1, eq_false this.2.1, eq_false this.2.2.1, eq_false this.2.2.2⟩
  have n32 : (ch != 32) = true := bne_iff_ne.mpr (of_eq_false hB.1)
  have n9 : (ch != 9) = true := bne_iff_ne.mpr (of_eq_false hB.2.1)
  have n12 : (ch != 12) = true := bne_iff_ne.mpr (of_eq_false hB.2.2.1)
  have n13 : (ch != 13) = true := bne_iff_ne.mpr (of_eq_false hB.2.2.2)
  have n35 : (ch != 35) = true := bne_iff_ne.mpr c35
  have n92 : (ch != 92) = true := bne_iff_ne.mpr c92
  have C35 := Aside0.mk c35
  have C92 := Aside0.mk c92
  clear hB c35 c92
  have hMb : (M != 0) = false := bne_eq_false_iff_eq.mpr hM
  have HM0 : Aside0 (begM r.rest = 0) := ⟨by rw [HREST.out, HM.out]; exact hM⟩
  have e32 : (ch == 32) = false := by simpa using n32
  have e9 : (ch == 9) = false := by simpa using n9
  have e12 : (ch == 12) = false := by simpa using n12
  have e13 : (ch == 13) = false := by simpa using n13
  have e35 : (ch == 35) = false := by simpa using n35
  have e92 : (ch == 92) = false := by simpa using n92
  clear hM
  have hlet := fun w' => refLetter_c ch HRNG.out w'
  rw [hlv] at hlet
  have HLET := Aside0.mk hlet
  have HLV := Aside0.mk hlv
  clear hlet hlv
  obtain ⟨T0, hT0⟩ : ∃ T0, nameEnd (L.size + 1) L r.pos = T0 := ⟨_, rfl⟩
  have hT0b : T0 = nameEnd L.size L (r.pos + 1) := by
    rw [← hT0]
    simp only [nameEnd]
    rw [if_pos hlt, HCH.out, HLV.out]
    rfl
  have HT0 := Aside0.mk hT0
  have HT0B := Aside0.mk hT0b
  clear hT0 hT0b
  go_wp2_with (fail)
  refine (HLET.out _).mono ?_
  rintro _ w3 ⟨rfl, hd⟩
  have H3 := Aside0.mk (H2.out.drawn hd)
  have HB3 := Aside0.mk (HB2.out.trans (drawn_below hd))
  clear hd H2 HB2 c1 c2 hf
  go_wp2_with (fail)
  go_loopg [14] L.size (fun gl v14 wl => ∃ (i : Int), v14 = .int .i64 i ∧ Aside0 (OutAt g wl g r) ∧ Aside0 (Below g W1 wl) ∧ r.pos + 1 ≤ i ∧ i ≤ (L.size : Int) ∧ Aside0 ((L.size : Int) - i ≤ gl) ∧ Aside0 (T0 = nameEnd gl L i))
  case atStart => exact ⟨r.pos + 1, rfl, H3, HB3, by omega, by omega, ⟨by omega⟩, HT0B⟩
  case round =>
    clear H3 HB3
    obtain ⟨i, rfl, H3, HB3, hi0, hi1, HGL, HTL⟩ := hrel
    by_cases hil : i < (L.size : Int)
    · obtain ⟨gm, rfl⟩ : ∃ gm, gk = gm + 1 := ⟨gk - 1, by have := HGL.out; omega⟩
      have HGL1 : Aside0 ((L.size : Int) - (i + 1) ≤ gm) := ⟨by have := HGL.out; omega⟩
      have ht := HTL.out
      simp only [nameEnd] at ht
      rw [if_pos hil] at ht
      clear HTL HGL
      have hxi := bt_at L i
      obtain ⟨ci, hci⟩ : ∃ ci, bt L i = ci := ⟨_, rfl⟩
      have HRI : Aside0 (0 ≤ ci ∧ ci ≤ 255) := ⟨by rw [← hci]; exact bt_range L i⟩
      rw [hci] at hxi ht
      have pi : 0 ≤ i := by omega
      have qi : i < (L.size : Int) := hil
      replace pi := eq_true pi
      replace qi := eq_true qi
      clear hci
      cases hlv2 : letterB ci with
      | true =>
        have hlet2 := fun w' => refLetter_c ci HRI.out w'
        rw [hlv2] at hlet2 ht
        rw [Bool.true_or, if_pos rfl] at ht
        have HLET2 := Aside0.mk hlet2
        have HTN := Aside0.mk ht
        clear hlet2 hlv2 ht
        go_wp2_with (fail)
        refine (HLET2.out _).mono ?_
        rintro _ w4 ⟨rfl, hd⟩
        have H4 := Aside0.mk (H3.out.drawn hd)
        have HB4 := Aside0.mk (HB3.out.trans (drawn_below hd))
        clear hd H3 HB3
        go_wp2_with (fail)
        go_roundg gm
        case measure => exact Nat.lt_succ_self _
        case rel => exact ⟨i + 1, rfl, H4, HB4, by omega, by omega, HGL1, HTN⟩
      | false =>
        have hlet2 := fun w' => refLetter_c ci HRI.out w'
        rw [hlv2] at hlet2 ht
        rw [Bool.false_or] at ht
        have HLET2 := Aside0.mk hlet2
        clear hlet2 hlv2
        cases hdv2 : digitB ci with
        | true =>
          have hdig2 := fun w' => refDigit_c ci w'
          rw [hdv2] at hdig2 ht
          rw [if_pos rfl] at ht
          have HDIG2 := Aside0.mk hdig2
          have HTN := Aside0.mk ht
          clear hdig2 hdv2 ht
          go_wp2_with (fail)
          refine (HLET2.out _).mono ?_
          rintro _ w4 ⟨rfl, hd⟩
          have H4 := Aside0.mk (H3.out.drawn hd)
          have HB4 := Aside0.mk (HB3.out.trans (drawn_below hd))
          clear hd H3 HB3
          go_wp2_with (fail)
          refine (HDIG2.out _).mono ?_
          rintro _ w5 ⟨rfl, hd⟩
          have H5 := Aside0.mk (H4.out.drawn hd)
          have HB5 := Aside0.mk (HB4.out.trans (drawn_below hd))
          clear hd H4 HB4
          go_wp2_with (fail)
          go_roundg gm
          case measure => exact Nat.lt_succ_self _
          case rel => exact ⟨i + 1, rfl, H5, HB5, by omega, by omega, HGL1, HTN⟩
        | false =>
          have hdig2 := fun w' => refDigit_c ci w'
          rw [hdv2] at hdig2 ht
          rw [if_neg (by decide)] at ht
          have HDIG2 := Aside0.mk hdig2
          have HTN := Aside0.mk ht
          clear hdig2 hdv2 ht
          go_wp2_with (fail)
          refine (HLET2.out _).mono ?_
          rintro _ w4 ⟨rfl, hd⟩
          have H4 := Aside0.mk (H3.out.drawn hd)
          have HB4 := Aside0.mk (HB3.out.trans (drawn_below hd))
          clear hd H3 HB3
          go_wp2_with (fail)
          refine (HDIG2.out _).mono ?_
          rintro _ w5 ⟨rfl, hd⟩
          have H5 := Aside0.mk (H4.out.drawn hd)
          have HB5 := Aside0.mk (HB4.out.trans (drawn_below hd))
          clear hd H4 HB4
          go_wp2_with (fail)
          go_meet
          case rel => exact ⟨r, 13, i, rfl, rfl, rfl, H5, HB5, ⟨by rw [step_name r HMK.out (by rw [HCC.out]; exact HBK.out) (by rw [HCC.out]; exact C35.out) (by rw [HCC.out]; exact C92.out) HM0.out (by rw [HCC.out]; exact HLV.out)]; unfold Rd.name; rw [HS.out, HT0.out, HTN.out]⟩, ⟨rfl, rfl, rfl⟩, by omega, by omega⟩
    · have ht := HTL.out
      rw [nameEnd_end _ _ _ hil] at ht
      have hie : i = (L.size : Int) := by omega
      have HTN := Aside0.mk ht
      have qi : decide (i < (L.size : Int)) = false := decide_eq_false hil
      clear ht hil HTL hie
      go_wp2_with (fail)
      go_meet
      case rel => exact ⟨r, 13, i, rfl, rfl, rfl, H3, HB3, ⟨by rw [step_name r HMK.out (by rw [HCC.out]; exact HBK.out) (by rw [HCC.out]; exact C35.out) (by rw [HCC.out]; exact C92.out) HM0.out (by rw [HCC.out]; exact HLV.out)]; unfold Rd.name; rw [HS.out, HT0.out, HTN.out]⟩, ⟨rfl, rfl, rfl⟩, by omega, by omega⟩

end Go.Proofs.Ytdknppomjcpihaa.PPy
