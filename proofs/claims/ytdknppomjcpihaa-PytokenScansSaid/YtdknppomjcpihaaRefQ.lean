/- The document's Scan: how its answer lies in memory; its callees' contracts, as the model says them. -/
import Derived.Test.YtdknppomjcpihaaPureE
import Derived.Test.YtdknppomjcpihaaScan
import Derived.Test.YtdknppomjcpihaaPureI
namespace Go.Proofs.Ytdknppomjcpihaa.PPy
open Go.RowKit Go.Proofs.YtdknppomjcpihaaW.PrintWords Go.Proofs.YtdknppomjcpihaaW.PrintLast Go.Proofs.YtdknppomjcpihaaW.PrintMore

def Rd.outs (r : Rd) (v : Value) : Array Value := #[v, .int .u8 r.mark, .int .i64 r.depth, .bool r.join, .bool r.any, .bool r.colon]
/-- A reader's answer lies in block g. -/
def OutAt (B : Nat) (w : World) (g : Nat) (r : Rd) : Prop := B ≤ g ∧ ∃ v, w.heap[g]? = some (.cells (r.outs v) 27 (0, 0)) ∧ Kd.R k33 33 w B (fun _ => True) v r.ev
theorem OutAt.lt {B g : Nat} {w : World} {r : Rd} (h : OutAt B w g r) : g < w.heap.size := by
  obtain ⟨_, v, h, _⟩ := h
  exact (Array.getElem?_eq_some_iff.1 h).1
theorem OutAt.open {B g : Nat} {w : World} {r : Rd} (h : OutAt B w g r) : ∃ A c, Kd.R k33 33 w B (fun _ => True) (.slice A r.ev.length c) r.ev ∧ w.heap[g]? = some (.cells (r.outs (.slice A r.ev.length c)) 27 (0, 0)) ∧
    w.cell? ⟨g, 0, none⟩ = some (.slice A r.ev.length c) ∧ w.cell? ⟨g, 1, none⟩ = some (.int .u8 r.mark) ∧ w.cell? ⟨g, 2, none⟩ = some (.int .i64 r.depth) ∧ w.cell? ⟨g, 3, none⟩ = some (.bool r.join) ∧
    w.cell? ⟨g, 4, none⟩ = some (.bool r.any) ∧ w.cell? ⟨g, 5, none⟩ = some (.bool r.colon) ∧ (∀ j, w.frozen? ⟨g, j, none⟩ = false) := by
  obtain ⟨_, v, hh, hr⟩ := h
  obtain ⟨A, c, rfl⟩ := Kd.R_slice hr
  refine ⟨A, c, hr, hh, ?_, ?_, ?_, ?_, ?_, ?_, fun j => frozen_of_row w g j _ _ hh⟩ <;> exact (cell_of_row w g _ _ _ _ hh)
theorem OutAt.below {B g : Nat} {w w1 : World} {r : Rd} (h : OutAt B w g r) (hb : Below w.heap.size w w1) : OutAt B w1 g r := by
  have hlt := h.lt
  obtain ⟨hB, v, hh, hr⟩ := h
  exact ⟨hB, v, (hb.block g hlt).trans hh, Kd.R_below hr hb⟩
theorem OutAt.drawn {B g : Nat} {w w1 : World} {r : Rd} (h : OutAt B w g r) (hd : Drawn0 w w1) : OutAt B w1 g r := h.below (drawn_below hd)
theorem R_put27 {B b : Nat} {w : World} {cs : Array Value} {v : Value} {l : List S33} (hh : w.heap[b]? = some (.cells cs 27 (0, 0))) (hr : Kd.R k33 33 w B (fun _ => True) v l) (j : Nat) (u : Value) :
    (w.setCell ⟨b, j, none⟩ u).heap[b]? = some (.cells (cs.setIfInBounds j u) 27 (0, 0)) ∧ Kd.R k33 33 (w.setCell ⟨b, j, none⟩ u) B (fun _ => True) v l :=
  ⟨heap_setCell_same w b j cs 27 u hh, Kd.R_set hr hh (by decide) j u⟩
theorem OutAt.setMark {B g : Nat} {w : World} {r : Rd} (h : OutAt B w g r) (m : Int) : OutAt B (w.setCell ⟨g, 1, none⟩ (.int .u8 m)) g { r with mark := m } := by
  obtain ⟨hB, v, hh, hr⟩ := h
  have hq := R_put27 hh hr 1 (.int .u8 m)
  exact ⟨hB, v, hq.1, hq.2⟩
theorem OutAt.setDepth {B g : Nat} {w : World} {r : Rd} (h : OutAt B w g r) (m : Int) : OutAt B (w.setCell ⟨g, 2, none⟩ (.int .i64 m)) g { r with depth := m } := by
  obtain ⟨hB, v, hh, hr⟩ := h
  have hq := R_put27 hh hr 2 (.int .i64 m)
  exact ⟨hB, v, hq.1, hq.2⟩
theorem OutAt.setJoin {B g : Nat} {w : World} {r : Rd} (h : OutAt B w g r) (m : Bool) : OutAt B (w.setCell ⟨g, 3, none⟩ (.bool m)) g { r with join := m } := by
  obtain ⟨hB, v, hh, hr⟩ := h
  have hq := R_put27 hh hr 3 (.bool m)
  exact ⟨hB, v, hq.1, hq.2⟩
theorem OutAt.setAny {B g : Nat} {w : World} {r : Rd} (h : OutAt B w g r) (m : Bool) : OutAt B (w.setCell ⟨g, 4, none⟩ (.bool m)) g { r with any := m } := by
  obtain ⟨hB, v, hh, hr⟩ := h
  have hq := R_put27 hh hr 4 (.bool m)
  exact ⟨hB, v, hq.1, hq.2⟩
theorem OutAt.setColon {B g : Nat} {w : World} {r : Rd} (h : OutAt B w g r) (m : Bool) : OutAt B (w.setCell ⟨g, 5, none⟩ (.bool m)) g { r with colon := m } := by
  obtain ⟨hB, v, hh, hr⟩ := h
  have hq := R_put27 hh hr 5 (.bool m)
  exact ⟨hB, v, hq.1, hq.2⟩
theorem OutAt.same {B g : Nat} {w : World} {r r2 : Rd} (h : OutAt B w g r) (he : r2.ev = r.ev) (hm : r2.mark = r.mark) (hd : r2.depth = r.depth) (hj : r2.join = r.join) (ha : r2.any = r.any) (hc : r2.colon = r.colon) : OutAt B w g r2 := by
  obtain ⟨hB, v, hh, hr⟩ := h
  refine ⟨hB, v, ?_, by rw [he]; exact hr⟩
  unfold Rd.outs at hh ⊢
  rw [hm, hd, hj, ha, hc]
  exact hh

theorem refEnd_c (line : ByteArray) (hz : line.size ≤ 1000000) (w : World) : Calls Try.prog 13 #[.string line] w fun e w' => e = .returned (.int .i64 (endOf line)) ∧ Below w.heap.size w w' :=
  (PPl.indentureref11_End.calls (line.size + 1) line (endOf line) w (end_ref line hz)).mono fun _ _ h => ⟨h.1, by first | exact h.2 | exact drawn_below h.2⟩
theorem refBegins_c (s : ByteArray) (pos : Int) (hs : s.size ≤ 1000000) (h0 : 0 ≤ pos) (hp : pos < (s.size : Int)) (w : World) :
    Calls Try.prog 27 #[.string s, .int .i64 pos] w fun e w' => e = .returned (.tuple #[.int .u8 (begM (s.extract pos.toNat s.size)), .int .i64 (if begM (s.extract pos.toNat s.size) = 0 then 0 else pos + begN 3 (s.extract pos.toNat s.size) 0 + ((quot (begM (s.extract pos.toNat s.size))).size : Int))]) ∧ Below w.heap.size w w' := by
  obtain ⟨k, hk⟩ := begins_ref s pos hs h0 hp _ rfl
  exact (PPl.indentureref11_begins.calls k s pos _ _ w hk).mono fun _ _ h => ⟨h.1, by first | exact h.2 | exact drawn_below h.2⟩
theorem refClose_c (s q : ByteArray) (i : Int) (hs : s.size ≤ 1000000) (hq : q.size ≤ 3) (h0 : 0 ≤ i) (h1 : i ≤ (s.size : Int)) (w : World) :
    Calls Try.prog 28 #[.string s, .int .i64 i, .string q] w fun e w' => e = .returned (.tuple #[.int .i64 (closeOf s q (tx (s.size + 1) s q i false)).1, .int .i64 (closeOf s q (tx (s.size + 1) s q i false)).2]) ∧ Below w.heap.size w w' := by
  have hk := close_ref s q hs hq (s.size + 1) i h0 (by omega) (by omega)
  exact (PPl.indentureref11_close.calls _ s i q _ _ w hk).mono fun _ _ h => ⟨h.1, by first | exact h.2 | exact drawn_below h.2⟩
theorem refQuot_c (m : Int) (h : 1 ≤ m ∧ m ≤ 4) (w : World) : Calls Try.prog 29 #[.int .u8 m] w fun e w' => e = .returned (.string (quot m)) ∧ Below w.heap.size w w' :=
  (PPl.indentureref11_quotes.calls m _ w (quot_ref m h)).mono fun _ _ h => ⟨h.1, by first | exact h.2 | exact drawn_below h.2⟩
theorem refLetter_c (c : Int) (h : 0 ≤ c ∧ c ≤ 255) (w : World) : Calls Try.prog 30 #[.int .u8 c] w fun e w' => e = .returned (.bool (letterB c)) ∧ Drawn0 w w' :=
  (PPl.indentureref11_Letter.calls c _ w (letter_ref c h))
theorem refDigit_c (c : Int) (w : World) : Calls Try.prog 31 #[.int .u8 c] w fun e w' => e = .returned (.bool (digitB c)) ∧ Drawn0 w w' :=
  (PPl.indentureref11_Digit.calls c _ w (digit_ref c))
theorem refNumber_c (s : ByteArray) (pos : Int) (hs : s.size ≤ 1000000) (h0 : 0 ≤ pos) (hp : pos < (s.size : Int)) (w : World) :
    Calls Try.prog 32 #[.string s, .int .i64 pos] w fun e w' => e = .returned (.int .i64 (pos + numEnd (s.size + 1) (s.extract pos.toNat s.size) (signsB (s.extract pos.toNat s.size)) 1)) ∧ Below w.heap.size w w' :=
  (PPl.indentureref11_number.calls _ s pos _ w (number_ref s pos hs h0 hp)).mono fun _ _ h => ⟨h.1, by first | exact h.2 | exact drawn_below h.2⟩
theorem refOper_c (s : ByteArray) (pos : Int) (hs : s.size ≤ 1000000) (h0 : 0 ≤ pos) (hp : pos < (s.size : Int)) (w : World) :
    Calls Try.prog 33 #[.string s, .int .i64 pos] w fun e w' => e = .returned (.int .i64 (if opAt opL (s.extract pos.toNat s.size) < 47 then ((opOf (s.extract pos.toNat s.size)).size : Int) else 0)) ∧ Below w.heap.size w w' := by
  obtain ⟨k, hk⟩ := operator_ref s pos hs h0 hp _ rfl
  exact (PPl.indentureref11_operator.calls k s pos _ w hk).mono fun _ _ h => ⟨h.1, by first | exact h.2 | exact drawn_below h.2⟩

end Go.Proofs.Ytdknppomjcpihaa.PPy

namespace Go.Proofs.Ytdknppomjcpihaa.PPy
open Go.RowKit Go.Proofs.YtdknppomjcpihaaW.PrintWords Go.Proofs.YtdknppomjcpihaaW.PrintLast Go.Proofs.YtdknppomjcpihaaW.PrintMore

/-- What a text comes to, by what close tells. -/
def Rd.close (r : Rd) (m W n how : Int) : Rd :=
  if how = 0 then ({ r with mark := 0 } : Rd).leaf W n else if m ≤ 2 ∨ how = 1 then ({ r with mark := m } : Rd).leaf 16 n else ({ r with mark := 0 } : Rd).leaf 2 n
theorem text_close (r : Rd) (f m W n how : Int) (h : closeOf r.s (quot m) (tx (r.s.size + 1) r.s (quot m) f false) = (n, how)) : r.text f m W = r.close m W n how := by
  unfold Rd.text Rd.close
  generalize tx (r.s.size + 1) r.s (quot m) f false = o at h ⊢
  obtain ⟨o, b⟩ := o
  cases o with
  | some i =>
    obtain ⟨rfl, rfl⟩ := Prod.mk.inj h
    rw [if_pos rfl]
  | none =>
    cases b with
    | true =>
      obtain ⟨rfl, rfl⟩ := Prod.mk.inj h
      rw [if_neg (by decide), if_pos (.inr rfl)]
      show (if 2 < m ∧ true = false then _ else _) = _
      rw [if_neg (fun h => absurd h.2 (by decide))]
    | false =>
      obtain ⟨rfl, rfl⟩ := Prod.mk.inj h
      rw [if_neg (by decide)]
      show (if 2 < m ∧ false = false then _ else _) = _
      by_cases c : m ≤ 2
      · rw [if_neg (fun h => by omega), if_pos (.inl c)]
      · rw [if_pos ⟨by omega, rfl⟩, if_neg (fun h => by rcases h with h | h; exact c h; exact absurd h (by decide))]
theorem close_bd (s q : ByteArray) (f n how : Int) (hq : 1 ≤ q.size) (h0 : 0 ≤ f) (h : closeOf s q (tx (s.size + 1) s q f false) = (n, how)) : 0 ≤ n ∧ n ≤ (s.size : Int) ∧ (how = 0 ∨ how = 1 ∨ how = 2) := by
  have h1 := tx_bd s q (s.size + 1) f false
  have h2 := tx_in s q hq (s.size + 1) f false
  generalize tx (s.size + 1) s q f false = o at h h1 h2
  obtain ⟨o, b⟩ := o
  cases o with
  | some i =>
    obtain ⟨rfl, rfl⟩ := Prod.mk.inj h
    have := h1 i b rfl
    have := h2 i b h0 rfl
    exact ⟨by omega, by omega, .inl rfl⟩
  | none =>
    cases b with
    | true => obtain ⟨rfl, rfl⟩ := Prod.mk.inj h; exact ⟨by omega, by omega, .inr (.inl rfl)⟩
    | false => obtain ⟨rfl, rfl⟩ := Prod.mk.inj h; exact ⟨by omega, by omega, .inr (.inr rfl)⟩
theorem markOf_hp (s : ByteArray) (h : markOf s ≠ 0) : hp s (quot (markOf s)) = true := by
  unfold markOf at h ⊢
  split
  · assumption
  split
  · assumption
  split
  · assumption
  split
  · assumption
  · rename_i a b c d
    rw [if_neg a, if_neg b, if_neg c, if_neg d] at h
    exact absurd rfl h
theorem begM_bd (q : ByteArray) (h : begM q ≠ 0) : begN 3 q 0 + ((quot (begM q)).size : Int) ≤ (q.size : Int) ∧ 0 ≤ begN 3 q 0 := by
  have hb := begN_bd q 3 0
  unfold begM at h ⊢
  by_cases c : begN 3 q 0 = 2 ∧ pairB (strOfNums [smallB (bt q 0), smallB (bt q 1)]) = false
  · rw [if_pos c] at h; exact absurd rfl h
  · rw [if_neg c] at h ⊢
    have := hp_le (markOf_hp _ h)
    rw [ByteArray.size_extract] at this
    omega
theorem opL_kind : ∀ k : Nat, k < 47 → 1 ≤ (opL.getD k ByteArray.empty).size ∧ (opKind (opL.getD k ByteArray.empty) = 1 ↔ bt (opL.getD k ByteArray.empty) 0 = 40 ∨ bt (opL.getD k ByteArray.empty) 0 = 91 ∨ bt (opL.getD k ByteArray.empty) 0 = 123) ∧ (opKind (opL.getD k ByteArray.empty) = 2 ↔ bt (opL.getD k ByteArray.empty) 0 = 41 ∨ bt (opL.getD k ByteArray.empty) 0 = 93 ∨ bt (opL.getD k ByteArray.empty) 0 = 125) := by decide +kernel
theorem op_ch (q : ByteArray) (h : opAt opL q < 47) : (opKind (opOf q) = 1 ↔ bt q 0 = 40 ∨ bt q 0 = 91 ∨ bt q 0 = 123) ∧ (opKind (opOf q) = 2 ↔ bt q 0 = 41 ∨ bt q 0 = 93 ∨ bt q 0 = 125) := by
  have h1 := opL_kind _ h
  have h2 := (hp_iff _ _).mp (opAt_hp opL q h)
  have h3 := h2.2 0 h1.1
  rw [show ((0 : Nat) : Int) = 0 from rfl] at h3
  rw [h3]
  exact h1.2
/-- What a step is, case by case. -/
theorem step_mark (r : Rd) (h : r.mark ≠ 0) : r.step = r.text r.pos r.mark 16 := by unfold Rd.step; rw [if_pos h]
theorem step_c35 (r : Rd) (h : r.mark = 0) (hc : r.c = 35) : r.step = r.leaf 18 (r.s.size : Int) := by
  unfold Rd.step; rw [if_neg (fun c => c h), if_neg (by rw [hc]; decide), if_pos hc]
theorem step_c92 (r : Rd) (h : r.mark = 0) (hc : r.c = 92) : r.step = r.joined := by
  unfold Rd.step; rw [if_neg (fun c => c h), if_neg (by rw [hc]; decide), if_neg (by rw [hc]; decide), if_pos hc]
section
variable (r : Rd) (h : r.mark = 0) (h1 : blankB r.c = false) (h2 : r.c ≠ 35) (h3 : r.c ≠ 92)
include h h1 h2 h3
theorem step_beg (h4 : begM r.rest ≠ 0) : r.step = r.begun := by
  have := begM_range r.rest
  unfold Rd.step; rw [if_neg (fun c => c h), if_neg (by rw [h1]; decide), if_neg h2, if_neg h3, if_pos (by omega)]
variable (h4 : begM r.rest = 0)
include h4
theorem step_name (h5 : letterB r.c = true) : r.step = r.name := by
  unfold Rd.step; rw [if_neg (fun c => c h), if_neg (by rw [h1]; decide), if_neg h2, if_neg h3, if_neg (by omega), if_pos h5]
variable (h5 : letterB r.c = false)
include h5
theorem step_num (h6 : numB r.rest = true) : r.step = r.number := by
  unfold Rd.step; rw [if_neg (fun c => c h), if_neg (by rw [h1]; decide), if_neg h2, if_neg h3, if_neg (by omega), if_neg (by rw [h5]; decide), if_pos h6]
variable (h6 : numB r.rest = false)
include h6
theorem step_op (h7 : opAt opL r.rest < 47) : r.step = r.oper (opOf r.rest) := by
  unfold Rd.step; rw [if_neg (fun c => c h), if_neg (by rw [h1]; decide), if_neg h2, if_neg h3, if_neg (by omega), if_neg (by rw [h5]; decide), if_neg (by rw [h6]; decide), if_pos h7]
theorem step_other (h7 : ¬ opAt opL r.rest < 47) : r.step = r.leaf 2 (r.pos + 1) := by
  unfold Rd.step; rw [if_neg (fun c => c h), if_neg (by rw [h1]; decide), if_neg h2, if_neg h3, if_neg (by omega), if_neg (by rw [h5]; decide), if_neg (by rw [h6]; decide), if_neg h7]
end
end Go.Proofs.Ytdknppomjcpihaa.PPy

namespace Go.Proofs.Ytdknppomjcpihaa.PPy
open Go.RowKit Go.Proofs.YtdknppomjcpihaaW.PrintWords Go.Proofs.YtdknppomjcpihaaW.PrintLast Go.Proofs.YtdknppomjcpihaaW.PrintMore
attribute [local go_sem] max2_int min2_int max_two min_two max_three min_three max_four min_four
set_option linter.unusedVariables false
/-- The code's block n, the first that one comes to. -/
def findB (n : Nat) : Code → Option Code
  | .seq a b => match findB n a with
    | some c => some c
    | none => findB n b
  | .block m b => if m = n then some (.block m b) else findB n b
  | .loop b => findB n b
  | .cond _ a b => match findB n a with
    | some c => some c
    | none => findB n b
  | _ => none
/-- What stands behind block n in its row. -/
def behindB (n : Nat) : Code → Option Code
  | .seq (.block m b) c => if m = n then some c else match behindB n b with
    | some d => some d
    | none => behindB n c
  | .seq a b => match behindB n a with
    | some c => some c
    | none => behindB n b
  | .block _ b => behindB n b
  | .loop b => behindB n b
  | _ => none
/-- The code's first loop's body. -/
def loopB : Code → Option Code
  | .seq a b => match loopB a with
    | some c => some c
    | none => loopB b
  | .block _ b => loopB b
  | .loop b => some b
  | .cond _ a b => match loopB a with
    | some c => some c
    | none => loopB b
  | _ => none
/-- The code's first test of temporary n. -/
def condB (n : Nat) : Code → Option Code
  | .seq a b => match condB n a with
    | some c => some c
    | none => condB n b
  | .block _ b => condB n b
  | .loop b => condB n b
  | .cond (.tmp m) a b => if m = n then some (.cond (.tmp m) a b) else match condB n a with
    | some c => some c
    | none => condB n b
  | .cond _ a b => match condB n a with
    | some c => some c
    | none => condB n b
  | _ => none

end Go.Proofs.Ytdknppomjcpihaa.PPy
