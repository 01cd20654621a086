/- The document's Scan: a round. -/
import Derived.Test.YtdknppomjcpihaaRefL
import Derived.Test.YtdknppomjcpihaaRefN
import Derived.Test.YtdknppomjcpihaaRefG
import Derived.Test.YtdknppomjcpihaaRefT
namespace Go.Proofs.Ytdknppomjcpihaa.PPy
open Go.RowKit Go.Proofs.YtdknppomjcpihaaW.PrintWords Go.Proofs.YtdknppomjcpihaaW.PrintLast Go.Proofs.YtdknppomjcpihaaW.PrintMore
attribute [local go_sem] max2_int min2_int max_two min_two max_three min_three max_four min_four
set_option linter.unusedVariables false

set_option maxRecDepth 100000 in
set_option maxHeartbeats 4000000 in
theorem ref_in (u12 u13 u14 u15 u16 u17 u18 u19 u20 u21 u22 u23 u24 u25 u26 u27 u28 u29 u30 u31 u32 u33 u34 u35 u38 u39 u40 u41 u42 u43 u44 u45 u46 u47 u48 u49 u50 u51 u52 u53 u54 u55 u56 u57 u58 u59 u60 u61 u62 u63 u64 u65 u66 u67 u68 u69 u70 u71 u72 u73 u74 u75 u76 u77 u78 u79 u80 u81 u82 u83 u84 u85 u86 u87 u88 u89 u90 u91 u92 u93 u94 u95 u96 u97 u98 u99 u100 u101 u102 u103 u104 u105 u106 u107 u108 u109 u110 u111 u112 u113 u114 u115 u116 u117 u118 u119 u120 u121 u122 u123 u124 u125 u126 u127 u128 u129 u130 u131 u132 u133 u134 u135 u136 u137 u138 u139 u140 u141 u142 u143 u144 u145 u146 u147 u148 u149 u150 u151 u152 u153 u154 u155 u156 u157 u158 u159 u160 u161 u162 u163 u164 u165 u166 u167 u168 u169 u170 u171 u172 u173 u174 u175 u176 u177 u178 u179 u180 u181 u182 u183 u184 u185 u186 u187 u188 u189 u190 u191 u192 u193 u194 u195 u196 u197 u198 u199 u200 u201 u202 u203 u204 u205 u206 u207 u208 u209 u210 u211 u212 u213 u214 u215 u216 u217 u218 u219 u220 u221 u222 u223 u224 u225 u226 u227 u228 u229 u230 u231 u232 u233 u234 u235 u236 u237 u238 u239 u240 u241 u242 u243 u244 u245 u246 u247 u248 u249 u250 u251 u252 u253 u254 u255 u256 u257 u258 u259 u260 u261 : Value) (line : ByteArray) (pos mark depth : Int) (w : World) (res : Rd) (L : ByteArray) (g : Nat) (W1 : World) (r0 r : Rd)
    (HOK : Aside0 r.Ok) (HS : Aside0 (r.s = L)) (hp0 : 0 ≤ r.pos) (hlt : r.pos < (L.size : Int)) (gn : Nat) (J : Nat → Act → World → Prop) (K1 : Act → World → Prop)
    (hJ : ∀ (k : Nat) (a' : Act) (w' : World), (∃ u11 u12 u13 u14 u15 u16 u17 u18 u19 u38 u39 u40 u41 u42 u43 u44 u45 u46 u47 u48 u49 u50 u51 u52 u53 u54 u55 u56 u57 u58 u59 u60 u61 u62 u63 u64 u65 u66 u67 u68 u69 u70 u71 u72 u73 u74 u75 u76 u77 u78 u79 u80 u81 u82 u83 u84 u85 u86 u87 u88 u89 u90 u91 u92 u93 u94 u95 u96 u97 u98 u99 u100 u101 u102 u103 u104 u105 u106 u107 u108 u109 u110 u111 u112 u113 u114 u115 u116 u117 u118 u119 u120 u121 u122 u123 u124 u125 u126 u127 u128 u129 u130 u131 u132 u133 u134 u135 u136 u137 u138 u139 u140 u141 u142 u143 u144 u145 u146 u147 u148 u149 u150 u151 u152 u153 u154 u155 u156 u157 u158 u159 u160 u161 u162 u163 u164 u165 u166 u167 u168 u169 u170 u171 u172 u173 u174 u175 u176 u177 u178 u179 u180 u181 u182 u183 u184 u185 u186 u187 u188 u189 u190 u191 u192 u193 u194 u195 u196 u197 u198 u199 u200 u201 u202 u203 u204 u205 u206 u207 u208 u209 u210 u211 u212 u213 u214 u215 u216 u217 u218 u219 u220 u221 u222 u223 u224 u225 u226 u227 u228 u229 u230 u231 u232 u233 u234 u235 u236 u237 u238 u239 u240 u241 u242 u243 u244 u245 u246 u247 u248 u249 u250 u251 u252 u253 u254 u255 u256 u257 u258 u259 u260, (∃ r, u11 = Value.int IntKind.i64 r.pos ∧ Aside0 (OutAt g w' g r) ∧ Aside0 (Below g W1 w') ∧ Aside0 r.Ok ∧ Aside0 (r.s = L) ∧ Aside0 (↑L.size + 1 - r.pos ≤ ↑k) ∧ Aside0 (res = scanL k r)) ∧ a' = { tmps := List.toArray (Value.string line :: Value.int IntKind.i64 pos :: Value.int IntKind.u8 mark :: Value.int IntKind.i64 depth :: undef :: undef :: undef :: undef :: Value.pointer (some { block := w.heap.size, off := 0 }) :: Value.string L :: Value.pointer (some { block := g, off := 0 }) :: u11 :: u12 :: u13 :: u14 :: u15 :: u16 :: u17 :: u18 :: u19 :: u20 :: u21 :: u22 :: u23 :: u24 :: u25 :: u26 :: u27 :: u28 :: u29 :: u30 :: u31 :: u32 :: u33 :: u34 :: u35 :: Value.int IntKind.i64 pos :: Value.int IntKind.i64 r0.pos :: u38 :: u39 :: u40 :: u41 :: u42 :: u43 :: u44 :: u45 :: u46 :: u47 :: u48 :: u49 :: u50 :: u51 :: u52 :: u53 :: u54 :: u55 :: u56 :: u57 :: u58 :: u59 :: u60 :: u61 :: u62 :: u63 :: u64 :: u65 :: u66 :: u67 :: u68 :: u69 :: u70 :: u71 :: u72 :: u73 :: u74 :: u75 :: u76 :: u77 :: u78 :: u79 :: u80 :: u81 :: u82 :: u83 :: u84 :: u85 :: u86 :: u87 :: u88 :: u89 :: u90 :: u91 :: u92 :: u93 :: u94 :: u95 :: u96 :: u97 :: u98 :: u99 :: u100 :: u101 :: u102 :: u103 :: u104 :: u105 :: u106 :: u107 :: u108 :: u109 :: u110 :: u111 :: u112 :: u113 :: u114 :: u115 :: u116 :: u117 :: u118 :: u119 :: u120 :: u121 :: u122 :: u123 :: u124 :: u125 :: u126 :: u127 :: u128 :: u129 :: u130 :: u131 :: u132 :: u133 :: u134 :: u135 :: u136 :: u137 :: u138 :: u139 :: u140 :: u141 :: u142 :: u143 :: u144 :: u145 :: u146 :: u147 :: u148 :: u149 :: u150 :: u151 :: u152 :: u153 :: u154 :: u155 :: u156 :: u157 :: u158 :: u159 :: u160 :: u161 :: u162 :: u163 :: u164 :: u165 :: u166 :: u167 :: u168 :: u169 :: u170 :: u171 :: u172 :: u173 :: u174 :: u175 :: u176 :: u177 :: u178 :: u179 :: u180 :: u181 :: u182 :: u183 :: u184 :: u185 :: u186 :: u187 :: u188 :: u189 :: u190 :: u191 :: u192 :: u193 :: u194 :: u195 :: u196 :: u197 :: u198 :: u199 :: u200 :: u201 :: u202 :: u203 :: u204 :: u205 :: u206 :: u207 :: u208 :: u209 :: u210 :: u211 :: u212 :: u213 :: u214 :: u215 :: u216 :: u217 :: u218 :: u219 :: u220 :: u221 :: u222 :: u223 :: u224 :: u225 :: u226 :: u227 :: u228 :: u229 :: u230 :: u231 :: u232 :: u233 :: u234 :: u235 :: u236 :: u237 :: u238 :: u239 :: u240 :: u241 :: u242 :: u243 :: u244 :: u245 :: u246 :: u247 :: u248 :: u249 :: u250 :: u251 :: u252 :: u253 :: u254 :: u255 :: u256 :: u257 :: u258 :: u259 :: u260 :: u261 :: []), defers := [] }) → J k a' w') (hK1 : ∀ (a' : Act) (w' : World), Handed J (gn + 1) a' w' → K1 a' w')
    (HG : Aside0 ((L.size : Int) + 1 - r.pos ≤ ((gn + 1 : Nat) : Int))) (HT2 : Aside0 (res = scanL gn r.step)) (HSTEP : Aside0 (r.step.Ok ∧ r.pos < r.step.pos ∧ r.step.s = r.s)) (hLz : L.size ≤ 1000000)
    (Qr : Exit → Act → World → Prop) (wr : World) (H1 : Aside0 (OutAt g wr g r)) (HB : Aside0 (Below g W1 wr)) (C : Code) (hC : C = ((loopB ((Try.f11.body).getD .skip)).getD .skip)) : Code.wp Try.prog C (Exit.then K1 Qr) { tmps := List.toArray (Value.string line :: Value.int IntKind.i64 pos :: Value.int IntKind.u8 mark :: Value.int IntKind.i64 depth :: undef :: undef :: undef :: undef :: Value.pointer (some { block := w.heap.size, off := 0 }) :: Value.string L :: Value.pointer (some { block := g, off := 0 }) :: (Value.int IntKind.i64 r.pos) :: u12 :: u13 :: u14 :: u15 :: u16 :: u17 :: u18 :: u19 :: u20 :: u21 :: u22 :: u23 :: u24 :: u25 :: u26 :: u27 :: u28 :: u29 :: u30 :: u31 :: u32 :: u33 :: u34 :: u35 :: Value.int IntKind.i64 pos :: Value.int IntKind.i64 r0.pos :: u38 :: u39 :: u40 :: u41 :: u42 :: u43 :: u44 :: u45 :: u46 :: u47 :: u48 :: u49 :: u50 :: u51 :: u52 :: u53 :: u54 :: u55 :: u56 :: u57 :: u58 :: u59 :: u60 :: u61 :: u62 :: u63 :: u64 :: u65 :: u66 :: u67 :: u68 :: u69 :: u70 :: u71 :: u72 :: u73 :: u74 :: u75 :: u76 :: u77 :: u78 :: u79 :: u80 :: u81 :: u82 :: u83 :: u84 :: u85 :: u86 :: u87 :: u88 :: u89 :: u90 :: u91 :: u92 :: u93 :: u94 :: u95 :: u96 :: u97 :: u98 :: u99 :: u100 :: u101 :: u102 :: u103 :: u104 :: u105 :: u106 :: u107 :: u108 :: u109 :: u110 :: u111 :: u112 :: u113 :: u114 :: u115 :: u116 :: u117 :: u118 :: u119 :: u120 :: u121 :: u122 :: u123 :: u124 :: u125 :: u126 :: u127 :: u128 :: u129 :: u130 :: u131 :: u132 :: u133 :: u134 :: u135 :: u136 :: u137 :: u138 :: u139 :: u140 :: u141 :: u142 :: u143 :: u144 :: u145 :: u146 :: u147 :: u148 :: u149 :: u150 :: u151 :: u152 :: u153 :: u154 :: u155 :: u156 :: u157 :: u158 :: u159 :: u160 :: u161 :: u162 :: u163 :: u164 :: u165 :: u166 :: u167 :: u168 :: u169 :: u170 :: u171 :: u172 :: u173 :: u174 :: u175 :: u176 :: u177 :: u178 :: u179 :: u180 :: u181 :: u182 :: u183 :: u184 :: u185 :: u186 :: u187 :: u188 :: u189 :: u190 :: u191 :: u192 :: u193 :: u194 :: u195 :: u196 :: u197 :: u198 :: u199 :: u200 :: u201 :: u202 :: u203 :: u204 :: u205 :: u206 :: u207 :: u208 :: u209 :: u210 :: u211 :: u212 :: u213 :: u214 :: u215 :: u216 :: u217 :: u218 :: u219 :: u220 :: u221 :: u222 :: u223 :: u224 :: u225 :: u226 :: u227 :: u228 :: u229 :: u230 :: u231 :: u232 :: u233 :: u234 :: u235 :: u236 :: u237 :: u238 :: u239 :: u240 :: u241 :: u242 :: u243 :: u244 :: u245 :: u246 :: u247 :: u248 :: u249 :: u250 :: u251 :: u252 :: u253 :: u254 :: u255 :: u256 :: u257 :: u258 :: u259 :: u260 :: u261 :: []), defers := [] } wr := by
  subst hC
  conv => arg 2; whnf
  let Qz : Exit → Act → World → Prop := bodyPost Try.prog Try.f11 fun _ _ => True
  obtain ⟨A, c, hr, hh, c0, c1, c2, c3, c4, c5, hf⟩ := H1.out.open
  clear hr hh c0 c2 c3 c4 c5
  obtain ⟨q, hq⟩ : ∃ q, L.extract r.pos.toNat L.size = q := ⟨_, rfl⟩
  have hbg := fun w' => refBegins_c L r.pos hLz hp0 hlt w'
  rw [hq] at hbg
  obtain ⟨M, hM⟩ : ∃ M, begM q = M := ⟨_, rfl⟩
  obtain ⟨be, hbe⟩ : ∃ be, (if M = 0 then 0 else r.pos + begN 3 q 0 + ((quot M).size : Int)) = be := ⟨_, rfl⟩
  rw [hM, hbe] at hbg
  have HBG := Aside0.mk hbg
  have HM := Aside0.mk hM
  have HBE := Aside0.mk hbe
  have HQ := Aside0.mk hq
  have hx := bt_at L r.pos
  obtain ⟨ch, hch⟩ : ∃ ch, bt L r.pos = ch := ⟨_, rfl⟩
  rw [hch] at hx
  have HCH := Aside0.mk hch
  have hpq : 0 ≤ r.pos := hp0
  have hlq : r.pos < (L.size : Int) := hlt
  replace hpq := eq_true hpq
  replace hlq := eq_true hlq
  clear hbg hM hbe hq hch
  go_upto_block 2 with (fail)
  refine (HBG.out _).mono ?_
  rintro _ w2 ⟨rfl, hb⟩
  have H2 := Aside0.mk (H1.out.below hb)
  have HB2 := Aside0.mk (HB.out.trans (hb.mono (by have := H1.out.lt; omega)))
  clear hb H1 HB c1 hf
  obtain ⟨A, c, hr, hh, c0, c1, c2, c3, c4, c5, hf⟩ := H2.out.open
  clear hr hh c0 c3 c4 c5
  go_upto_block 2 with (fail)
  rename_i K9 hK9
  by_cases hbl : r.mark = 0 ∧ (ch = 32 ∨ ch = 9 ∨ ch = 12 ∨ ch = 13)
  · have hst : Aside0 (r.step = { r with pos := r.pos + 1 }) := ⟨by
      unfold Rd.step
      rw [if_neg (fun h => h hbl.1), if_pos (by unfold Rd.c blankB; rw [HS.out, HCH.out]; rcases hbl.2 with e | e | e | e <;> rw [e] <;> rfl)]⟩
    have hmk : r.mark = 0 := hbl.1
    have hmb : (r.mark != 0) = false := bne_eq_false_iff_eq.mpr hmk
    have hc4 := hbl.2
    clear hbl hmk
    rcases hc4 with rfl | rfl | rfl | rfl
    all_goals
      go_wp2_with (fail)
      go_roundg gn
      case measure => exact Nat.lt_succ_self _
      case rel => exact ⟨r.step, by rw [hst.out], ⟨by rw [hst.out]; exact H2.out.same rfl rfl rfl rfl rfl rfl⟩, HB2, ⟨HSTEP.out.1⟩, ⟨HSTEP.out.2.2.trans HS.out⟩, ⟨by have := HSTEP.out.2.1; have := HG.out; omega⟩, HT2⟩
  · have HBL := Aside0.mk hbl
    clear hbl
    go_cut [11, 13, 14] (fun v11 v13 v14 wc => ∃ (r2 : Rd) (K T : Int), v11 = .int .i64 r.pos ∧ v13 = .int .u8 K ∧ v14 = .int .i64 T ∧ Aside0 (OutAt g wc g r2) ∧ Aside0 (Below g W1 wc) ∧ Aside0 (r.step = r2.leaf K T) ∧ Aside0 (r2.s = r.s ∧ r2.pos = r.pos ∧ r2.ev = r.ev) ∧ 0 ≤ T ∧ T ≤ (L.size : Int))
    case first =>
      rename_i J0 K0 hJ0 hK0
      clear c1 c2 hf hJ hK1 hK9
      by_cases hmk : r.mark = 0
      · by_cases c35 : ch = 35
        · exact ref_35 _ _ _ _ _ _ _ _ _ _ _ _ _ _ _ _ _ _ _ _ _ _ _ _ _ _ _ _ _ _ _ _ _ _ _ _ _ _ _ _ _ _ _ _ _ _ _ _ _ _ _ _ _ _ _ _ _ _ _ _ _ _ _ _ _ _ _ _ _ _ _ _ _ _ _ _ _ _ _ _ _ _ _ _ _ _ _ _ _ _ _ _ _ _ _ _ _ _ _ _ _ _ _ _ _ _ _ _ _ _ _ _ _ _ _ _ _ _ _ _ _ _ _ _ _ _ _ _ _ _ _ _ _ _ _ _ _ _ _ _ _ _ _ _ _ _ _ _ _ _ _ _ _ _ _ _ _ _ _ _ _ _ _ _ _ _ _ _ _ _ _ _ _ _ _ _ _ _ _ _ _ _ _ _ _ _ _ _ _ _ _ _ _ _ _ _ _ _ _ _ _ _ _ _ _ _ _ _ _ _ _ _ _ _ _ _ _ _ _ _ _ _ _ _ _ _ _ _ line pos mark depth w L g W1 r0 r HOK HS hp0 hlt hLz q M be HM HBE HQ ch hx HCH hpq hlq w2 H2 HB2 HBL J0 K0 hJ0 hK0 _ hmk c35 _ (by kernel_rfl)
        · by_cases c92 : ch = 92
          · exact ref_92 _ _ _ _ _ _ _ _ _ _ _ _ _ _ _ _ _ _ _ _ _ _ _ _ _ _ _ _ _ _ _ _ _ _ _ _ _ _ _ _ _ _ _ _ _ _ _ _ _ _ _ _ _ _ _ _ _ _ _ _ _ _ _ _ _ _ _ _ _ _ _ _ _ _ _ _ _ _ _ _ _ _ _ _ _ _ _ _ _ _ _ _ _ _ _ _ _ _ _ _ _ _ _ _ _ _ _ _ _ _ _ _ _ _ _ _ _ _ _ _ _ _ _ _ _ _ _ _ _ _ _ _ _ _ _ _ _ _ _ _ _ _ _ _ _ _ _ _ _ _ _ _ _ _ _ _ _ _ _ _ _ _ _ _ _ _ _ _ _ _ _ _ _ _ _ _ _ _ _ _ _ _ _ _ _ _ _ _ _ _ _ _ _ _ _ _ _ _ _ _ _ _ _ _ _ _ _ _ _ _ _ _ _ _ _ _ _ _ _ _ _ _ _ _ _ _ _ _ line pos mark depth w L g W1 r0 r HOK HS hp0 hlt hLz q M be HM HBE HQ ch hx HCH hpq hlq w2 H2 HB2 HBL J0 K0 hJ0 hK0 _ hmk c35 c92 _ (by kernel_rfl)
          · by_cases hM : M = 0
            · cases hlv : letterB ch with
              | true => exact ref_let _ _ _ _ _ _ _ _ _ _ _ _ _ _ _ _ _ _ _ _ _ _ _ _ _ _ _ _ _ _ _ _ _ _ _ _ _ _ _ _ _ _ _ _ _ _ _ _ _ _ _ _ _ _ _ _ _ _ _ _ _ _ _ _ _ _ _ _ _ _ _ _ _ _ _ _ _ _ _ _ _ _ _ _ _ _ _ _ _ _ _ _ _ _ _ _ _ _ _ _ _ _ _ _ _ _ _ _ _ _ _ _ _ _ _ _ _ _ _ _ _ _ _ _ _ _ _ _ _ _ _ _ _ _ _ _ _ _ _ _ _ _ _ _ _ _ _ _ _ _ _ _ _ _ _ _ _ _ _ _ _ _ _ _ _ _ _ _ _ _ _ _ _ _ _ _ _ _ _ _ _ _ _ _ _ _ _ _ _ _ _ _ _ _ _ _ _ _ _ _ _ _ _ _ _ _ _ _ _ _ _ _ _ _ _ _ _ _ _ _ _ _ _ _ _ _ _ _ line pos mark depth w L g W1 r0 r HOK HS hp0 hlt hLz q M be HM HBE HQ ch hx HCH hpq hlq w2 H2 HB2 HBL J0 K0 hJ0 hK0 _ hmk c35 c92 hM hlv _ (by kernel_rfl)
              | false => exact ref_num _ _ _ _ _ _ _ _ _ _ _ _ _ _ _ _ _ _ _ _ _ _ _ _ _ _ _ _ _ _ _ _ _ _ _ _ _ _ _ _ _ _ _ _ _ _ _ _ _ _ _ _ _ _ _ _ _ _ _ _ _ _ _ _ _ _ _ _ _ _ _ _ _ _ _ _ _ _ _ _ _ _ _ _ _ _ _ _ _ _ _ _ _ _ _ _ _ _ _ _ _ _ _ _ _ _ _ _ _ _ _ _ _ _ _ _ _ _ _ _ _ _ _ _ _ _ _ _ _ _ _ _ _ _ _ _ _ _ _ _ _ _ _ _ _ _ _ _ _ _ _ _ _ _ _ _ _ _ _ _ _ _ _ _ _ _ _ _ _ _ _ _ _ _ _ _ _ _ _ _ _ _ _ _ _ _ _ _ _ _ _ _ _ _ _ _ _ _ _ _ _ _ _ _ _ _ _ _ _ _ _ _ _ _ _ _ _ _ _ _ _ _ _ _ _ _ _ _ line pos mark depth w L g W1 r0 r HOK HS hp0 hlt hLz q M be HM HBE HQ ch hx HCH hpq hlq w2 H2 HB2 HBL J0 K0 hJ0 hK0 _ hmk c35 c92 hM hlv _ (by kernel_rfl)
            · exact ref_beg _ _ _ _ _ _ _ _ _ _ _ _ _ _ _ _ _ _ _ _ _ _ _ _ _ _ _ _ _ _ _ _ _ _ _ _ _ _ _ _ _ _ _ _ _ _ _ _ _ _ _ _ _ _ _ _ _ _ _ _ _ _ _ _ _ _ _ _ _ _ _ _ _ _ _ _ _ _ _ _ _ _ _ _ _ _ _ _ _ _ _ _ _ _ _ _ _ _ _ _ _ _ _ _ _ _ _ _ _ _ _ _ _ _ _ _ _ _ _ _ _ _ _ _ _ _ _ _ _ _ _ _ _ _ _ _ _ _ _ _ _ _ _ _ _ _ _ _ _ _ _ _ _ _ _ _ _ _ _ _ _ _ _ _ _ _ _ _ _ _ _ _ _ _ _ _ _ _ _ _ _ _ _ _ _ _ _ _ _ _ _ _ _ _ _ _ _ _ _ _ _ _ _ _ _ _ _ _ _ _ _ _ _ _ _ _ _ _ _ _ _ _ _ _ _ _ _ _ line pos mark depth w L g W1 r0 r HOK HS hp0 hlt hLz q M be HM HBE HQ ch hx HCH hpq hlq w2 H2 HB2 HBL J0 K0 hJ0 hK0 _ hmk c35 c92 hM _ (by kernel_rfl)
      · exact ref_go _ _ _ _ _ _ _ _ _ _ _ _ _ _ _ _ _ _ _ _ _ _ _ _ _ _ _ _ _ _ _ _ _ _ _ _ _ _ _ _ _ _ _ _ _ _ _ _ _ _ _ _ _ _ _ _ _ _ _ _ _ _ _ _ _ _ _ _ _ _ _ _ _ _ _ _ _ _ _ _ _ _ _ _ _ _ _ _ _ _ _ _ _ _ _ _ _ _ _ _ _ _ _ _ _ _ _ _ _ _ _ _ _ _ _ _ _ _ _ _ _ _ _ _ _ _ _ _ _ _ _ _ _ _ _ _ _ _ _ _ _ _ _ _ _ _ _ _ _ _ _ _ _ _ _ _ _ _ _ _ _ _ _ _ _ _ _ _ _ _ _ _ _ _ _ _ _ _ _ _ _ _ _ _ _ _ _ _ _ _ _ _ _ _ _ _ _ _ _ _ _ _ _ _ _ _ _ _ _ _ _ _ _ _ _ _ _ _ _ _ _ _ _ _ _ _ _ _ line pos mark depth w L g W1 r0 r HOK HS hp0 hlt hLz q M be HM HBE HQ ch hx HCH hpq hlq w2 H2 HB2 HBL J0 K0 hJ0 hK0 _ hmk _ (by kernel_rfl)
    case rest =>
      clear H2 HB2 c1 c2 hf HBL
      obtain ⟨r2, K, T, rfl, rfl, rfl, H2, HB2, HK, HR2, hT0, hT1⟩ := hcut
      refine hK9 _ _ ?_
      exact ref_put _ _ _ _ _ _ _ _ _ _ _ _ _ _ _ _ _ _ _ _ _ _ _ _ _ _ _ _ _ _ _ _ _ _ _ _ _ _ _ _ _ _ _ _ _ _ _ _ _ _ _ _ _ _ _ _ _ _ _ _ _ _ _ _ _ _ _ _ _ _ _ _ _ _ _ _ _ _ _ _ _ _ _ _ _ _ _ _ _ _ _ _ _ _ _ _ _ _ _ _ _ _ _ _ _ _ _ _ _ _ _ _ _ _ _ _ _ _ _ _ _ _ _ _ _ _ _ _ _ _ _ _ _ _ _ _ _ _ _ _ _ _ _ _ _ _ _ _ _ _ _ _ _ _ _ _ _ _ _ _ _ _ _ _ _ _ _ _ _ _ _ _ _ _ _ _ _ _ _ _ _ _ _ _ _ _ _ _ _ _ _ _ _ _ _ _ _ _ _ _ _ _ _ _ _ _ _ _ _ _ _ _ _ _ _ _ _ _ _ _ _ _ _ _ _ _ _ _ _ _ _ _ _ _ _ _ _ _ _ _ _ _ _ _ line pos mark depth w res L g W1 r0 r HOK HS hp0 hlt gn J K1 hJ hK1 HG HT2 HSTEP hLz M ch _ wc r2 K T H2 HB2 HK HR2 hT0 hT1 _ (by kernel_rfl)

end Go.Proofs.Ytdknppomjcpihaa.PPy
