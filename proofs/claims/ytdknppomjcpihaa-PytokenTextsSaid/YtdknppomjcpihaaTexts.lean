/- A slice of bytes that came of a conversion of a string ('[]byte(s)'), and is appended to: what an append leaves. -/
import Derived.Test.YtdknppomjcpihaaPPyx0
import Derived.Lib.ConvBytes
import Derived.ArgAppend
import Derived.Test.YtdknppomjcpihaaPureH
import Derived.Test.YtdknppomjcpihaaPureJ
namespace Go.Proofs.Ytdknppomjcpihaa.PPy
open Go.RowKit Go.Proofs.YtdknppomjcpihaaW.PrintWords Go.Proofs.YtdknppomjcpihaaW.PrintLast Go.Proofs.YtdknppomjcpihaaW.PrintMore

/-- v is a slice of the bytes xs in a block from B on; what a conversion marked lies behind the row's last cell. -/
def BRow (B : Nat) (w : World) (v : Value) (xs : List Int) : Prop :=
  ∃ (b cap : Nat) (cur : Array Value) (F : Nat × Nat), v = .slice (some ⟨b, 0, none⟩) xs.length cap ∧ B ≤ b ∧ w.heap[b]? = some (.cells cur 5 F) ∧ (F = (0, 0) ∨ F = (cur.size, cur.size + 1)) ∧ cur.size = cap ∧ xs.length ≤ cap ∧
    (∀ j, j < xs.length → cur[j]? = some (.int .u8 (xs.getD j 0)))
theorem brow_frozen {w : World} {b j : Nat} {cur : Array Value} {F : Nat × Nat} (h : w.heap[b]? = some (.cells cur 5 F)) (hF : F = (0, 0) ∨ F = (cur.size, cur.size + 1)) (hj : j < cur.size) : w.frozen? ⟨b, j, none⟩ = false := by
  rcases hF with rfl | rfl
  · simp [World.frozen?, h]
  · simp [World.frozen?, h]; omega
theorem BRow.below {B : Nat} {w w1 : World} {v : Value} {xs : List Int} (h : BRow B w v xs) (hb : Below w.heap.size w w1) : BRow B w1 v xs := by
  obtain ⟨b, cap, cur, F, h1, h2, h3, h4⟩ := h
  exact ⟨b, cap, cur, F, h1, h2, (hb.block b (Array.getElem?_eq_some_iff.1 h3).1).trans h3, h4⟩
theorem BRow.lower {B B' : Nat} {w : World} {v : Value} {xs : List Int} (h : BRow B w v xs) (hB : B' ≤ B) : BRow B' w v xs := by
  obtain ⟨b, cap, cur, F, h1, h2, h3⟩ := h
  exact ⟨b, cap, cur, F, h1, by omega, h3⟩
/-- What a walk reads of it. -/
theorem BRow.reads {B : Nat} {w : World} {v : Value} {xs : List Int} (h : BRow B w v xs) : ∃ b cap, v = .slice (some ⟨b, 0, none⟩) xs.length cap ∧ ∀ i, i < xs.length → w.cell? ⟨b, 0 + i, none⟩ = some (.int .u8 (xs.getD i 0)) := by
  obtain ⟨b, cap, cur, F, h1, h2, h3, h4, h5, h6, h7⟩ := h
  exact ⟨b, cap, h1, fun i hi => by rw [Nat.zero_add, cell_of_row _ _ _ _ _ _ h3]; exact h7 i hi⟩
theorem brow_of_conv (w : World) (s : ByteArray) (xs : List Int) (hx : strOfNums xs = s) (hr : ∀ x ∈ xs, 0 ≤ x ∧ x ≤ 255) : BRow w.heap.size (Lib.bytesWorld w 5 s) (.slice (some ⟨w.heap.size, 0, none⟩) s.size (grownCap w s.size 0 5)) xs := by
  have hz : s.size = xs.length := by rw [← hx]; exact strOfNums_size xs
  have hn := Lib.bytesWorld_at_new w 5 s
  have hle : s.size ≤ grownCap w s.size 0 5 := by
    exact grownCap_ge w s.size 0 5
  refine ⟨w.heap.size, grownCap w s.size 0 5, Lib.bytesCells w 5 s, _, by rw [hz], Nat.le_refl _, hn, .inr rfl, ?_, by omega, ?_⟩
  · unfold Lib.bytesCells
    rw [Array.size_append, Array.size_map, Array.size_replicate]
    have : s.data.size = s.size := rfl
    omega
  · intro j hj
    have h1 := Lib.bytesWorld_cell w 5 s j (by omega)
    rw [cell_of_row _ _ _ _ _ _ hn] at h1
    rw [h1]
    congr 2
    have hd : s.data.toList = xs.map fun n => UInt8.ofNat n.toNat := by rw [← hx]; exact strOfNums_data xs
    rw [hd, List.getD_eq_getElem?_getD, List.getElem?_map, List.getElem?_eq_getElem hj, List.getD_eq_getElem?_getD, List.getElem?_eq_getElem hj]
    have := hr _ (List.getElem_mem hj)
    show ((UInt8.ofNat (xs[j]'hj).toNat).toNat : Int) = xs[j]'hj
    rw [UInt8.toNat_ofNat']
    omega

section
variable {P : Program} {ops : Array Oper} {rest : List Oper} {o : Oper} {a : Act} {Q : Exit → Act → World → Prop}
/-- append(v, c), behind 'at_builtin'; the goal's world is 'W.alloc' of the variadic's box. -/
theorem BRow_append {w0 W : World} (B : Nat) (hgd : o.guard = none) (s x : Operand) (t : TypeId) (ho : o.op = .call { callee := .builtin .append, args := #[s, x], argTypes := #[t, t] })
    (ht : P.underlying t = some (.slice 5)) (hinfo : (P.info? 5).map (fun i => (i.zero, i.size, i.bytes)) = some (some (.int .u8 0), 1, 1))
    (v : Value) (xs : List Int) (c : Int) (hs : a.eval s = v) (hx : a.eval x = .slice (some ⟨W.heap.size, 0, none⟩) 1 1) (HO : BRow B W v xs) (HB : Below B w0 W) (hbase : B ≤ W.heap.size) (hl : xs.length ≤ 1000000)
    (h : ∀ v1 w1, BRow B w1 v1 (xs ++ [c]) → Below B w0 w1 → wpList P ops Q rest (a.put o.dst v1) w1) :
    wpList P ops Q (o :: rest) a (W.alloc (.cells #[.int .u8 c] 5)) := by
  obtain ⟨b, cap, cur, F, rfl, hB, hh, hF, hcs, hle, hc⟩ := HO
  obtain ⟨i0, hi, hz0, hz1, hz2⟩ := info_parts hinfo
  have hlt : b < W.heap.size := (Array.getElem?_eq_some_iff.1 hh).1
  have hh2 : (W.alloc (.cells #[.int .u8 c] 5)).heap[b]? = some (.cells cur 5 F) := (heap_alloc_old W _ hlt).trans hh
  have hnew : (W.alloc (.cells #[.int .u8 c] 5)).heap[W.heap.size]? = some (.cells #[.int .u8 c] 5 (0, 0)) := heap_alloc_new _ _
  have hB2 : Below B w0 (W.alloc (.cells #[.int .u8 c] 5)) := HB.alloc hbase _
  refine wpList_append_arg _ hgd s x t ho 5 i0 (.int .u8 0) 1 1 ht hi hz0 hz1 hz2 rfl (by decide) b 0 xs.length cap (xs.map (Value.int .u8)) hs (by simp) ?_ ⟨W.heap.size, 0, none⟩ 1 1 [.int .u8 c] hx rfl ?_ ?_ ?_ ?_ ?_ ?_ ?_
  · intro j u hj
    obtain ⟨hjl, hju⟩ := List.getElem?_eq_some_iff.1 hj
    have hjl2 : j < xs.length := by simpa using hjl
    rw [Nat.zero_add, cell_of_row _ _ _ _ _ _ hh2, hc j hjl2, ← hju, List.getElem_map, List.getD_eq_getElem?_getD, List.getElem?_eq_getElem hjl2]
    rfl
  · intro j u hj
    match j, hj with
    | 0, hj => rw [← Option.some.inj hj]; exact cell_of_row _ _ _ _ _ _ hnew
    | j + 1, hj => simp at hj
  · intro u hu
    rw [List.mem_singleton.1 hu]; rfl
  · intro hroom j hj
    have hj0 : j = 0 := by simpa using hj
    subst hj0
    have hin : 0 + xs.length * 1 + 0 < cur.size := by omega
    refine ⟨?_, brow_frozen hh2 hF hin⟩
    rw [cell_of_row _ _ _ _ _ _ hh2, Array.getElem?_eq_getElem hin]
    rfl
  · unfold maxLen; omega
  · omega
  · intro hroom
    have hin : xs.length < cur.size := by omega
    show wpList P ops Q rest (a.put o.dst (.slice (some ⟨b, 0, none⟩) (xs.length + 1) cap)) ((W.alloc (.cells #[.int .u8 c] 5)).setCell ⟨b, 0 + xs.length * 1, none⟩ (.int .u8 c))
    rw [show 0 + xs.length * 1 = xs.length by omega]
    refine h _ _ ⟨b, cap, cur.setIfInBounds xs.length (.int .u8 c), F, by rw [List.length_append]; rfl, hB, ?_, by rw [Array.size_setIfInBounds]; exact hF, by rw [Array.size_setIfInBounds]; exact hcs, by rw [List.length_append]; simp; omega, ?_⟩ (hB2.setCell hB _)
    · simp [World.setCell, Array.getElem?_modify, hh2]
    · intro j hj
      rw [List.length_append, List.length_singleton] at hj
      by_cases hjx : j = xs.length
      · rw [hjx, Array.getElem?_setIfInBounds_self_of_lt hin, List.getD_eq_getElem?_getD, List.getElem?_append_right (Nat.le_refl _), Nat.sub_self]
        rfl
      · rw [Array.getElem?_setIfInBounds_ne (by omega), hc j (by omega), List.getD_eq_getElem?_getD, List.getD_eq_getElem?_getD, List.getElem?_append_left (by omega)]
  · intro hgrow v' w' hown hg
    have hsz : (W.alloc (.cells #[.int .u8 c] 5)).heap.size = W.heap.size + 1 := World.size_alloc _ _
    rcases hown.2 with ⟨_, hn0⟩ | ⟨g, cap', cur', rfl, hg1, hg2, hg3, hg4, hg5, hg6⟩
    · omega
    · refine h _ _ ⟨g, cap', cur', (0, 0), by rw [List.length_append]; rfl, by omega, hg2, .inl rfl, by rw [hg5]; omega, by rw [List.length_append]; exact hg3, ?_⟩ (hB2.grown hg (by omega) (fun k e => by cases e))
      intro j hj
      have hj2 := hj
      rw [List.length_append, List.length_singleton] at hj2
      have e1 : (cur'.toList.take ((xs.length + 1) * 1))[j]? = (xs.map (Value.int .u8) ++ [.int .u8 c])[j]? := by rw [hg6]
      rw [List.getElem?_take_of_lt (by omega), Array.getElem?_toList] at e1
      rw [e1, show xs.map (Value.int .u8) ++ [Value.int .u8 c] = (xs ++ [c]).map (Value.int .u8) by rw [List.map_append]; rfl, List.getElem?_map, List.getElem?_eq_getElem hj, List.getD_eq_getElem?_getD, List.getElem?_eq_getElem hj]
      rfl
end

end Go.Proofs.Ytdknppomjcpihaa.PPy

namespace Go.Proofs.Ytdknppomjcpihaa.PPy
open Go.RowKit Go.Proofs.YtdknppomjcpihaaW.PrintWords Go.Proofs.YtdknppomjcpihaaW.PrintLast Go.Proofs.YtdknppomjcpihaaW.PrintMore
attribute [local go_sem high] eqA33
attribute [local go_sem] max2_int min2_int max_two min_two max_three min_three max_four min_four

theorem reads_w (w : World) : Calls Try.prog 12 #[] w fun e w' => e = .returned (.bool true) ∧ Below w.heap.size w w' := indenturelaw11_reads.calls true w Pure.reads_true

/-- The prefixes of the law. -/
def preOf (k : Int) : List Int := if k = 0 then [] else if k = 1 then [114] else if k = 2 then [66] else if k = 3 then [114, 98] else if k = 4 then [70, 114] else [117]
theorem preOf_ok (k : Int) (h : 0 ≤ k ∧ k < 6) : PreOk (preOf k) := by
  have : k = 0 ∨ k = 1 ∨ k = 2 ∨ k = 3 ∨ k = 4 ∨ k = 5 := by omega
  unfold PreOk
  rcases this with rfl | rfl | rfl | rfl | rfl | rfl
  · exact .inl rfl
  · exact .inr (.inl ⟨114, rfl, by omega⟩)
  · exact .inr (.inl ⟨66, rfl, by omega⟩)
  · exact .inr (.inr ⟨114, 98, rfl, by omega⟩)
  · exact .inr (.inr ⟨70, 114, rfl, by omega⟩)
  · exact .inr (.inl ⟨117, rfl, by omega⟩)
/-- The bytes of a string. -/
def bytesL (s : ByteArray) (k : Nat) : List Int := (List.range k).map fun j : Nat => bt s (j : Int)
theorem bytesL_succ (s : ByteArray) (k : Nat) : bytesL s (k + 1) = bytesL s k ++ [bt s (k : Int)] := by unfold bytesL; rw [List.range_succ, List.map_append]; rfl
theorem bytesL_bys (s : ByteArray) (k : Nat) : Bys (bytesL s k) := by
  intro x hx
  obtain ⟨j, _, rfl⟩ := List.mem_map.mp hx
  exact bt_range s _
theorem bytesL_len (s : ByteArray) (k : Nat) : (bytesL s k).length = k := by unfold bytesL; simp
theorem escL_snoc (m : Int) (l : List Int) (c : Int) : escL m (l ++ [c]) = escL m l ++ escB m c := by unfold escL; rw [List.flatMap_append]; simp
theorem escL_len (m : Int) (l : List Int) : (escL m l).length ≤ 2 * l.length := by
  unfold escL
  induction l with
  | nil => simp
  | cons c l ih =>
    rw [List.flatMap_cons, List.length_append, List.length_cons]
    have : (escB m c).length ≤ 2 := by unfold escB; split <;> simp
    omega
theorem nums_app (A B : List Int) : strOfNums A ++ strOfNums B = strOfNums (A ++ B) := by
  apply ByteArray.ext
  unfold strOfNums
  simp

/-- What the law's line tells. -/
theorem texts_fact (PR : List Int) (hPR : PreOk PR) (hPl : PR.length ≤ 2) (M : Int) (hM : 1 ≤ M ∧ M ≤ 4) (s : ByteArray) (hs : s.size ≤ 2000) (xs : List Int) (hxs : PR ++ quoL M ++ escL M (bytesL s s.size) = xs) (LN : ByteArray) (hLN : strOfNums xs ++ quot M = LN) :
    pytoken_Scan.f (LN ++ ⟨#[10]⟩) 0 0 7 = some ([⟨3, 15, 0, (LN.size : Int)⟩], 0, 7, false, true, false) ∧ (strOfNums xs).size + (quot M).size ≤ 9223372036854775807 ∧ LN.size + 1 ≤ 9223372036854775807 := by
  have hq := quot_L M hM
  have hln : LN = strOfNums (xs ++ quoL M) := by rw [← hLN, hq.1, nums_app]
  have hlsz : LN.size = (xs ++ quoL M).length := by rw [hln]; exact strOfNums_size _
  have hel := escL_len M (bytesL s s.size)
  rw [bytesL_len] at hel
  have hxl : xs.length = PR.length + (quoL M).length + (escL M (bytesL s s.size)).length := by rw [← hxs, List.length_append, List.length_append]
  have hbl := bytesL_len s s.size
  rw [List.length_append] at hlsz
  obtain ⟨r, hr⟩ : ∃ r, scanM (LN ++ ⟨#[10]⟩) 0 0 7 = r := ⟨_, rfl⟩
  have hql := hq.2.1
  have hz1 : (LN ++ ⟨#[10]⟩ : ByteArray).size ≤ 1000000 := by
    rw [size_app]
    show LN.size + 1 ≤ 1000000
    omega
  have hY : xs ++ quoL M = PR ++ (quoL M ++ (escL M (bytesL s s.size) ++ quoL M)) := by rw [← hxs]; simp
  obtain ⟨m1, m2, m3, m4, m5, m6⟩ := texts_main PR hPR M hM (bytesL s s.size) (bytesL_bys s s.size) (by omega) (xs ++ quoL M) hY r (by rw [← hln]; exact hr)
  have hz2 : (strOfNums xs).size + (quot M).size = LN.size := by rw [strOfNums_size, hq.1, strOfNums_size, hlsz]
  have hz3 : LN.size ≤ 999999 := by omega
  have hz4 : LN.size ≤ 9223372036854775806 := Nat.le_trans hz3 (by decide)
  refine ⟨?_, by rw [hz2]; exact Nat.le_trans hz4 (by decide), Nat.succ_le_succ hz4⟩
  have hA : pytoken_Scan.f (LN ++ ⟨#[10]⟩) 0 0 7 = some (r.ev, r.mark, r.depth, r.join, r.any, r.colon) := pytoken_Scan.is _ _ _ _ hz1 (by omega) (by omega) r hr
  have e : (((xs ++ quoL M).length : Nat) : Int) = (LN.size : Int) := by rw [List.length_append, hlsz]
  rw [e] at m1
  rw [m1, m2, m3, m4, m5, m6] at hA
  exact hA

set_option maxRecDepth 100000 in
set_option maxHeartbeats 4000000 in
theorem texts_great (p m : Int) (s : ByteArray) (w : World) (hs : 2000 < s.size) :
    Calls Try.prog 5 #[.int .u8 p, .int .u8 m, .string s] w fun e w' => e = .returned (.bool true) ∧ Below w.heap.size w w' := by
  have hb : decide (2000 < s.size) = true := decide_eq_true hs
  have hb2 : decide (2000 < (s.size : Int)) = true := decide_eq_true (by omega)
  go_enter Try.func5, Try.ntmps5
  go_wp2
  go_ret
  exact ⟨rfl, Below.refl _ _⟩

set_option maxRecDepth 100000 in
set_option maxHeartbeats 40000000 in
theorem texts_w (p m : Int) (s : ByteArray) (w : World) (hp : 0 ≤ p ∧ p ≤ 255) (hm : 0 ≤ m ∧ m ≤ 255) (hs : s.size ≤ 2000) :
    Calls Try.prog 5 #[.int .u8 p, .int .u8 m, .string s] w fun e w' => e = .returned (.bool true) ∧ Below w.heap.size w w' := by
  have hb : decide (2000 < s.size) = false := decide_eq_false (by omega)
  have hb2 : decide (2000 < (s.size : Int)) = false := decide_eq_false (by omega)
  obtain ⟨hp0, hp1⟩ := hp
  obtain ⟨hm0, hm1⟩ := hm
  obtain ⟨kp, hkp⟩ : ∃ kp, p % 6 = kp := ⟨_, rfl⟩
  obtain ⟨km, hkm⟩ : ∃ km, m % 4 = km := ⟨_, rfl⟩
  have hkp2 : 0 ≤ kp ∧ kp < 6 := by omega
  have hkm2 : 0 ≤ km ∧ km < 4 := by omega
  have hM : 1 ≤ km + 1 ∧ km + 1 ≤ 4 := by omega
  have HKP := Aside0.mk hkp
  have HKM := Aside0.mk hkm
  have HKP2 := Aside0.mk hkp2
  have HKM2 := Aside0.mk hkm2
  have HM := Aside0.mk hM
  clear hkp hkm hkp2 hkm2 hM
  go_enter Try.func5, Try.ntmps5
  go_upto_region 3 with (fail)
  go_cut [7] (fun v7 wc => v7 = .string (strOfNums (preOf kp)) ∧ Aside0 (Below w.heap.size w wc))
  case first =>
    have h6 : kp = 0 ∨ kp = 1 ∨ kp = 2 ∨ kp = 3 ∨ kp = 4 ∨ kp = 5 := by have := HKP2.out; omega
    have hk := HKP.out
    clear HKP HKP2
    rcases h6 with rfl | rfl | rfl | rfl | rfl | rfl
    all_goals
      go_wp2_with (fail)
      go_meet
      case rel => exact ⟨rfl, ⟨(Below.refl _ _).alloc (Nat.le_refl _) _⟩⟩
  case rest =>
    obtain ⟨rfl, HB⟩ := hcut
    go_upto_region 4 with (fail)
    go_cut [8] (fun v8 wc => v8 = .string (quot (km + 1)) ∧ Aside0 (Below w.heap.size w wc))
    case first =>
      have h4 : km = 0 ∨ km = 1 ∨ km = 2 ∨ km = 3 := by have := HKM2.out; omega
      have hk := HKM.out
      have hsz := HB.out.size
      clear HKM HKM2
      rcases h4 with rfl | rfl | rfl | rfl
      all_goals
        go_wp2_with (fail)
        go_meet
        case rel => exact ⟨rfl, ⟨HB.out.alloc hsz _⟩⟩
    case rest =>
      clear HB
      obtain ⟨rfl, HB⟩ := hcut
      obtain ⟨M, hMM⟩ : ∃ M, km + 1 = M := ⟨_, rfl⟩
      rw [hMM] at HM ⊢
      clear hMM HKP HKM
      obtain ⟨PR, hPR⟩ : ∃ PR, preOf kp = PR := ⟨_, rfl⟩
      have hPRok := preOf_ok kp HKP2.out
      rw [hPR] at hPRok ⊢
      clear hPR
      have hQL := quot_L M HM.out
      obtain ⟨QS, hQS⟩ : ∃ QS, quot M = QS := ⟨_, rfl⟩
      rw [hQS] at hQL ⊢
      obtain ⟨hQ1, ⟨hQ2, hQ3⟩, hQ4, hQ5, hQ6⟩ := hQL
      have hPRb : Bys PR ∧ PR.length ≤ 2 := by
        rcases hPRok with rfl | ⟨a, rfl, ha⟩ | ⟨a, b, rfl, hab⟩
        · exact ⟨fun x hx => by simp at hx, by simp⟩
        · exact ⟨fun x hx => by simp at hx; omega, by simp⟩
        · exact ⟨fun x hx => by simp at hx; omega, by simp⟩
      have hQsz : QS.size = (quoL M).length := by rw [hQ1]; exact strOfNums_size _
      have hQbt : bt QS 0 = q0 M := by rw [hQ1, ← hQ5]; exact bt_nums _ hQ4 0 (by omega)
      obtain ⟨XS, hXS⟩ : ∃ XS, strOfNums PR ++ QS = XS := ⟨_, rfl⟩
      have hXL : XS = strOfNums (PR ++ quoL M) := by rw [← hXS, hQ1, nums_app]
      have kc := fun (w : World) => Lib.run_convert_string_bytes (P := Try.prog) w 9 37 5 XS Try.underlying9 Try.underlying37 Try.underlying5
      have hsz : (strOfNums PR).size + QS.size ≤ 9223372036854775807 := by rw [strOfNums_size]; have := hPRb.2; omega
      have HQ1 := Aside0.mk hQ1
      have HQ4 := Aside0.mk hQ4
      have HQ6 := Aside0.mk hQ6
      have HQS := Aside0.mk hQS
      have HXL := Aside0.mk hXL
      have HPR := Aside0.mk hPRok
      have HPRB := Aside0.mk hPRb
      have HQSZ := Aside0.mk hQsz
      have HQBT := Aside0.mk hQbt
      clear hQ1 hQ4 hQ5 hQ6 hQS hPRok hPRb hQsz hQbt hXL
      have HBW := Aside0.mk (bytes_below HB.out HB.out.size 5 XS)
      have HR0 := Aside0.mk ((brow_of_conv wc XS _ HXL.out.symm (HPRB.out.1.app HQ4.out)).lower HB.out.size)
      go_wp2_with (fail)
      go_loopg [9, 10] s.size (fun gk v9 v10 wr => ∃ (k : Nat), v10 = .int .i64 (k : Int) ∧ Aside0 (k + gk = s.size) ∧ Aside0 (BRow w.heap.size wr v9 (PR ++ quoL M ++ escL M (bytesL s k))) ∧ Aside0 (Below w.heap.size w wr))
      case atStart => exact ⟨0, rfl, ⟨by omega⟩, ⟨by have : escL M (bytesL s 0) = [] := rfl; rw [this, List.append_nil]; exact HR0.out⟩, HBW⟩
      case round =>
        clear HR0 HBW kc hXS hsz
        obtain ⟨k, rfl, HG, HR, HB⟩ := hrel
        have HLN : Aside0 ((PR ++ quoL M ++ escL M (bytesL s k)).length + 2 ≤ 1000000) := ⟨by have h1 := escL_len M (bytesL s k); rw [bytesL_len] at h1; have h2 := HG.out; have h3 := HPRB.out.2; rw [List.length_append, List.length_append]; omega⟩
        by_cases hk : k < s.size
        · obtain ⟨g, rfl⟩ : ∃ g, gk = g + 1 := ⟨gk - 1, by have := HG.out; omega⟩
          have hx : ((s[k]'hk).toNat : Int) = bt s (k : Int) := bt_at s (k : Int) hk
          have hrg := bt_range s (k : Int)
          obtain ⟨c, hc⟩ : ∃ c, bt s (k : Int) = c := ⟨_, rfl⟩
          rw [hc] at hx hrg
          have HC := Aside0.mk hc
          have hqn : 0 < QS.size := by rw [HQSZ.out]; omega
          have hxq : ((QS[0]'hqn).toNat : Int) = bt QS 0 := bt_at QS 0 hqn
          rw [HQBT.out] at hxq
          have hq9 := HQ6.out
          obtain ⟨qz, hqz⟩ : ∃ qz, q0 M = qz := ⟨_, rfl⟩
          rw [hqz] at hxq hq9
          have HQZ := Aside0.mk hqz
          have hqi : (0 : Int) < (QS.size : Int) := by omega
          have p0 : (0 : Int) ≤ (k : Int) := by omega
          have p1 : (k : Int) < (s.size : Int) := by omega
          replace p0 := eq_true p0
          replace p1 := eq_true p1
          have hkd : decide (k < s.size) = true := decide_eq_true hk
          obtain ⟨hr0, hr1⟩ := hrg
          clear hc hqz
          by_cases h10 : c = 10 ∨ c = 13
          · have HE : Aside0 (escB M c = [45]) := ⟨by have : esc1 M c = 45 := (by unfold esc1; rw [if_pos h10]); unfold escB; rw [this, HQZ.out, if_neg (by omega)]⟩
            have hqe : ((45 : Int) == qz) = false := beq_eq_false_iff_ne.mpr (by omega)
            clear hq9 hr0 hr1
            rcases h10 with rfl | rfl
            all_goals
              go_wp2_with (at_builtin; refine BRow_append (w0 := w) w.heap.size rfl (.tmp 57) (.tmp 59) 37 rfl Try.underlying37 info5 u9 (PR ++ quoL M ++ escL M (bytesL s k)) 45 rfl (by first | (go_simp; done) | (go_simp; rfl)) HR.out HB.out HB.out.size (by have := HLN.out; omega) ?_; intro v1 w1 hr1 hb1; have HR1 := Aside0.mk hr1; have HB1 := Aside0.mk hb1; clear hr1 hb1)
              go_roundg g
              case measure => exact Nat.lt_succ_self _
              case rel => exact ⟨k + 1, by go_num, ⟨by have := HG.out; omega⟩, ⟨by rw [bytesL_succ, HC.out, escL_snoc, HE.out, ← List.append_assoc]; exact HR1.out⟩, HB1⟩
          · have e10 : (c == 10) = false := beq_eq_false_iff_ne.mpr (fun e => h10 (.inl e))
            have e13 : (c == 13) = false := beq_eq_false_iff_ne.mpr (fun e => h10 (.inr e))
            have HE1 : Aside0 (esc1 M c = c) := ⟨by unfold esc1; rw [if_neg h10]⟩
            clear h10
            by_cases hq : c = qz
            · have HE : Aside0 (escB M c = [92, c]) := ⟨by unfold escB; rw [HE1.out, HQZ.out, if_pos (.inl hq)]⟩
              have hqe : (c == qz) = true := beq_iff_eq.mpr hq
              clear hq hq9 HE1
              go_upto_region 14 with (at_builtin; refine BRow_append (w0 := w) w.heap.size rfl (.tmp 54) (.tmp 55) 37 rfl Try.underlying37 info5 u9 (PR ++ quoL M ++ escL M (bytesL s k)) 92 rfl (by first | (go_simp; done) | (go_simp; rfl)) HR.out HB.out HB.out.size (by have := HLN.out; omega) ?_; intro v1 w1 hr1 hb1; have HR1 := Aside0.mk hr1; have HB1 := Aside0.mk hb1; clear hr1 hb1)
              go_wp2_with (at_builtin; refine BRow_append (w0 := w) w.heap.size rfl (.tmp 57) (.tmp 59) 37 rfl Try.underlying37 info5 v1 ((PR ++ quoL M ++ escL M (bytesL s k)) ++ [92]) c rfl (by first | (go_simp; done) | (go_simp; rfl)) HR1.out HB1.out HB1.out.size (by have := HLN.out; rw [List.length_append, List.length_singleton]; omega) ?_; intro v2 w2 hr2 hb2; have HR2 := Aside0.mk hr2; have HB2 := Aside0.mk hb2; clear hr2 hb2)
              go_roundg g
              case measure => exact Nat.lt_succ_self _
              case rel => exact ⟨k + 1, by go_num, ⟨by have := HG.out; omega⟩, ⟨by rw [bytesL_succ, HC.out, escL_snoc, HE.out, ← List.append_assoc, show ([92, c] : List Int) = [92] ++ [c] from rfl, ← List.append_assoc]; exact HR2.out⟩, HB2⟩
            · have hqe : (c == qz) = false := beq_eq_false_iff_ne.mpr hq
              by_cases h92 : c = 92
              · have HE : Aside0 (escB M c = [92, c]) := ⟨by unfold escB; rw [HE1.out, if_pos (.inr h92)]⟩
                have e92 : (c == 92) = true := beq_iff_eq.mpr h92
                clear hq hq9 h92 HE1
                go_upto_region 14 with (at_builtin; refine BRow_append (w0 := w) w.heap.size rfl (.tmp 54) (.tmp 55) 37 rfl Try.underlying37 info5 u9 (PR ++ quoL M ++ escL M (bytesL s k)) 92 rfl (by first | (go_simp; done) | (go_simp; rfl)) HR.out HB.out HB.out.size (by have := HLN.out; omega) ?_; intro v1 w1 hr1 hb1; have HR1 := Aside0.mk hr1; have HB1 := Aside0.mk hb1; clear hr1 hb1)
                go_wp2_with (at_builtin; refine BRow_append (w0 := w) w.heap.size rfl (.tmp 57) (.tmp 59) 37 rfl Try.underlying37 info5 v1 ((PR ++ quoL M ++ escL M (bytesL s k)) ++ [92]) c rfl (by first | (go_simp; done) | (go_simp; rfl)) HR1.out HB1.out HB1.out.size (by have := HLN.out; rw [List.length_append, List.length_singleton]; omega) ?_; intro v2 w2 hr2 hb2; have HR2 := Aside0.mk hr2; have HB2 := Aside0.mk hb2; clear hr2 hb2)
                go_roundg g
                case measure => exact Nat.lt_succ_self _
                case rel => exact ⟨k + 1, by go_num, ⟨by have := HG.out; omega⟩, ⟨by rw [bytesL_succ, HC.out, escL_snoc, HE.out, ← List.append_assoc, show ([92, c] : List Int) = [92] ++ [c] from rfl, ← List.append_assoc]; exact HR2.out⟩, HB2⟩
              · have HE : Aside0 (escB M c = [c]) := ⟨by unfold escB; rw [HE1.out, HQZ.out, if_neg (fun e => by rcases e with e | e; exact hq e; exact h92 e)]⟩
                have e92 : (c == 92) = false := beq_eq_false_iff_ne.mpr h92
                clear hq hq9 h92 HE1
                go_wp2_with (at_builtin; refine BRow_append (w0 := w) w.heap.size rfl (.tmp 57) (.tmp 59) 37 rfl Try.underlying37 info5 u9 (PR ++ quoL M ++ escL M (bytesL s k)) c rfl (by first | (go_simp; done) | (go_simp; rfl)) HR.out HB.out HB.out.size (by have := HLN.out; omega) ?_; intro v1 w1 hr1 hb1; have HR1 := Aside0.mk hr1; have HB1 := Aside0.mk hb1; clear hr1 hb1)
                go_roundg g
                case measure => exact Nat.lt_succ_self _
                case rel => exact ⟨k + 1, by go_num, ⟨by have := HG.out; omega⟩, ⟨by rw [bytesL_succ, HC.out, escL_snoc, HE.out, ← List.append_assoc]; exact HR1.out⟩, HB1⟩
        · have hke : k = s.size := by have := HG.out; omega
          have hkd : decide (k < s.size) = false := decide_eq_false hk
          obtain ⟨xs, hxs⟩ : ∃ xs, PR ++ quoL M ++ escL M (bytesL s k) = xs := ⟨_, rfl⟩
          obtain ⟨b, cap, hv, hcells⟩ := HR.out.reads
          rw [hxs] at hv hcells
          have kb := run_convert_bytes_arg (P := Try.prog) wr 37 5 Try.underlying37 Try.underlying5 b 0 xs.length cap xs rfl hcells 9 Try.underlying9
          obtain ⟨LN, hLN⟩ : ∃ LN, strOfNums xs ++ QS = LN := ⟨_, rfl⟩
          have hF := texts_fact PR HPR.out HPRB.out.2 M HM.out s hs xs (by rw [← hke]; exact hxs) LN (by rw [HQS.out]; exact hLN)
          rw [HQS.out] at hF
          obtain ⟨hA, hs1, hs2⟩ := hF
          have HA := Aside0.mk hA
          clear hcells hA hk hke hxs HLN HG HR
          subst hv
          go_wp2_with (fail)
          refine (pytoken_Scan.calls _ 0 0 7 _ _ _ _ _ _ _ HA.out).mono ?_
          rintro _ w3 ⟨v, rfl, hR, hb3⟩
          obtain ⟨A, c2, rfl⟩ := Kd.R_slice hR
          have hl1 : ([⟨3, 15, 0, (LN.size : Int)⟩] : List S33).length = 1 := rfl
          have HR3 := Aside0.mk hR
          have HB3 : Aside0 (Below w.heap.size w w3) := ⟨HB.out.trans (hb3.mono HB.out.size)⟩
          rw [hl1]
          clear hR hb3 HA hl1 kb hLN
          go_upto_region 17 with (fail)
          obtain ⟨W2, hW2⟩ : ∃ W2, w3.alloc (.cells #[.slice A 1 c2, .int .u8 0, .int .i64 7, .bool false, .bool true, .bool false] 25) = W2 := ⟨_, rfl⟩
          rw [hW2]
          obtain ⟨g3, hg3⟩ : ∃ g3, w3.heap.size = g3 := ⟨_, rfl⟩
          have hnew : W2.heap[g3]? = some (.cells #[.slice A 1 c2, .int .u8 0, .int .i64 7, .bool false, .bool true, .bool false] 25 (0, 0)) := by rw [← hW2, ← hg3]; exact heap_alloc_new _ _
          rw [hg3]
          have e0 : W2.cell? ⟨g3, 0, none⟩ = some (.slice A 1 c2) := cell_of_row W2 _ _ _ _ _ hnew
          have e1 : W2.cell? ⟨g3, 1, none⟩ = some (.int .u8 0) := cell_of_row W2 _ _ _ _ _ hnew
          have e2 : W2.cell? ⟨g3, 2, none⟩ = some (.int .i64 7) := cell_of_row W2 _ _ _ _ _ hnew
          have e3 : W2.cell? ⟨g3, 3, none⟩ = some (.bool false) := cell_of_row W2 _ _ _ _ _ hnew
          have e4 : W2.cell? ⟨g3, 4, none⟩ = some (.bool true) := cell_of_row W2 _ _ _ _ _ hnew
          have e5 : W2.cell? ⟨g3, 5, none⟩ = some (.bool false) := cell_of_row W2 _ _ _ _ _ hnew
          have hR2 : Kd.R k33 33 W2 wr.heap.size (fun _ => True) (.slice A 1 c2) [⟨3, 15, 0, (LN.size : Int)⟩] := by rw [← hW2]; exact Kd.R_alloc HR3.out _
          have hBW : Aside0 (Below w.heap.size w W2) := ⟨by rw [← hW2]; exact HB3.out.alloc HB3.out.size _⟩
          have p0 : (0 : Int) ≤ 0 := Int.le_refl _
          have q0 : (0 : Int) < ((1 : Nat) : Int) := by decide
          have hA0 : ∃ g0, A = some ⟨g0, 0, none⟩ := by
            obtain ⟨_, inner, ho, _⟩ := hR2
            rcases ho.2 with ⟨h, _⟩ | ⟨g0, cap0, cur, h, _⟩
            · exact absurd h (by simp)
            · injection h with h1 h2 h3
              exact ⟨g0, h1⟩
          obtain ⟨g0, rfl⟩ := hA0
          obtain ⟨ad, eA, x0, x1, x2, x3⟩ := at_T33 (Kd.R_reads' hR2).2.2 0 p0 q0
          cases eA
          have hrd : rd_T33 [⟨3, 15, 0, (LN.size : Int)⟩] 0 = ⟨3, 15, 0, (LN.size : Int)⟩ := rfl
          rw [hrd] at x0 x1 x2 x3
          have y0 : W2.cell? ⟨g0, 0, none⟩ = some (.int .u8 3) := x0
          have y1 : W2.cell? ⟨g0, 1, none⟩ = some (.int .u8 15) := x1
          have y2 : W2.cell? ⟨g0, 2, none⟩ = some (.int .i64 0) := x2
          have y3 : W2.cell? ⟨g0, 3, none⟩ = some (.int .i64 (LN.size : Int)) := x3
          clear hnew hW2 hg3 HR3 HB3 hR2 hrd p0 q0 x0 x1 x2 x3
          go_wp2_with (fail)
          refine (reads_w _).mono ?_
          rintro _ w5 ⟨rfl, hb5⟩
          have HB5 : Aside0 (Below w.heap.size w w5) := ⟨hBW.out.trans (hb5.mono hBW.out.size)⟩
          clear hb5
          go_wp2_with (fail)
          go_ret
          exact ⟨rfl, HB5.out⟩

theorem texts_all (p m : Int) (s : ByteArray) (w : World) (hp : 0 ≤ p ∧ p ≤ 255) (hm : 0 ≤ m ∧ m ≤ 255) :
    Calls Try.prog 5 #[.int .u8 p, .int .u8 m, .string s] w fun e w' => e = .returned (.bool true) ∧ Below w.heap.size w w' := by
  by_cases h : s.size ≤ 2000
  · exact texts_w p m s w hp hm h
  · exact texts_great p m s w (by omega)

end Go.Proofs.Ytdknppomjcpihaa.PPy
