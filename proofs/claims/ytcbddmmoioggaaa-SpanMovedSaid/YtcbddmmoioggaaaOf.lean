/- of: the program's list of the places of two lists. -/
import Derived.Test.YtcbddmmoioggaaaIt
namespace Go.Proofs.Ytcbddmmoioggaaa.Sp
open Go.RowKit Go.Shelf Go.Proofs.YtcbddmmoioggaaaW.PrintWords Go.Proofs.YtcbddmmoioggaaaW.PrintLast Go.Proofs.YtcbddmmoioggaaaW.PrintMore
attribute [local go_sem] max2_int min2_int max_two min_two max_three min_three max_four min_four
attribute [local go_sem] Oper.semAt_some
set_option linter.unusedVariables false
set_option linter.unusedSimpArgs false
theorem region_round_list {P : Program} {ops : Array Oper} {Q : Exit → Act → World → Prop} {l₀ n id : Nat} {a : Act} {w : World} (hd : ∀ (i : Nat) (o : Oper), ops[i]? = some o → (∀ c, o.op ≠ .defer c))
    (h : wpList P ops (Only Q) ops.toList a w) : (Code.region id ops false).wpIn (Fence.wide.inRound l₀) n P Q a w :=
  region_round hd (by rw [List.range_eq_range', ← Array.length_toList, wpOps_eq_wpList ops.toList 0 (by simp)]; exact h)
/-- What of holds between two rounds: its five boxes, its list. -/
structure OI (n0 b5 fk : Nat) (w : World) (s : SA) (W : World) (v : Value) : Prop where
  h5 : W.heap[b5]? = some (.cells #[.func (.func fk) #[] #[]] 44 (0, 0))
  h7 : W.heap[b5 + 1]? = some (.cells #[v] 22 (0, 0))
  h8 : W.heap[b5 + 2]? = some (.cells #[.int .i64 s.fr] 3 (0, 0))
  h9 : W.heap[b5 + 3]? = some (.cells #[.bool s.on] 4 (0, 0))
  r : kR.R 31 W 0 (fun j => n0 ≤ j) v s.out
  b : Below n0 w W
theorem row_block {W : World} {ok : Nat → Prop} {v : Value} {xs : List Rg} (h : kR.R 31 W 0 ok v xs) {k : Nat} (hk : v.ownBlock = some k) : ∃ cs, W.heap[k]? = some (.cells cs 31 (0, 0)) := by
  obtain ⟨_, _, _, q, hq, cs, hcs⟩ := (Kd.R_bound h).1 k hk
  rcases List.mem_cons.1 hq with e | e
  · exact ⟨cs, by rw [← e]; exact hcs⟩
  · cases e
theorem OI.turn {n0 b5 fk : Nat} {w : World} {s : SA} {W W' : World} {v : Value} {row : Option Nat} (h : OI n0 b5 fk w s W v) (hn : n0 ≤ w.heap.size) (hg : W.grownBy W' row)
    (hr : ∀ r, row = some r → b5 + 4 ≤ r ∧ n0 ≤ r ∧ ∃ o : Obj, W.heap[r]? = some o ∧ (o.isCells = false ∨ ∃ cs, o = .cells cs 52 (0, 0))) : OI n0 b5 fk w s W' v := by
  have low : ∀ k o, k < b5 + 4 → W.heap[k]? = some o → W'.heap[k]? = some o := fun k o hk ho => (hg.block k (Array.getElem?_eq_some_iff.1 ho).1 (fun e => by have := (hr k e.symm).1; omega)).trans ho
  refine ⟨low _ _ (by omega) h.h5, low _ _ (by omega) h.h7, low _ _ (by omega) h.h8, low _ _ (by omega) h.h9, kd_turn h.r (fun k hk hlt => hg.block k hlt (fun e => ?_)), h.b.grown hg (Nat.le_trans hn h.b.size) (fun k e => (hr k e).2.1)⟩
  obtain ⟨cs, hcs⟩ := row_block h.r hk
  obtain ⟨_, _, o, ho, h1⟩ := hr k e.symm
  rw [hcs] at ho
  injection ho with ho
  subst ho
  rcases h1 with h1 | ⟨cs', h1⟩
  · cases h1
  · injection h1 with _ h1
    exact absurd h1 (by decide)
theorem KT.set {W : World} {b i : Nat} {cs : Array Value} {t : TypeId} (h : W.heap[b]? = some (.cells cs t (0, 0))) (ht : t ≠ 52 ∧ t ≠ 53 ∧ t ≠ 56) (v : Value) : KT W (W.setCell ⟨b, i, none⟩ v) := fun k row q hq hk => by
  refine (Below.heap_setCell W ⟨b, i, none⟩ v k (fun e => ?_)).trans hk
  have e : k = b := e
  subst e
  rw [h] at hk
  injection hk with hk
  injection hk with _ hk
  subst hk
  rcases hq with hq | hq | hq
  · exact ht.1 hq
  · exact ht.2.1 hq
  · exact ht.2.2 hq
theorem OI.on9 {n0 b5 fk : Nat} {w : World} {s : SA} {W : World} {v : Value} (h : OI n0 b5 fk w s W v) (hn : n0 ≤ b5) (o : Bool) : OI n0 b5 fk w ⟨s.fr, o, s.out⟩ (W.setCell ⟨b5 + 3, 0, none⟩ (.bool o)) v :=
  ⟨blk_far h.h5 (by show b5 ≠ b5 + 3; omega) _, blk_far h.h7 (by show b5 + 1 ≠ b5 + 3; omega) _, blk_far h.h8 (by show b5 + 2 ≠ b5 + 3; omega) _, blk_set h.h9 0 _, Kd.R_set h.r h.h9 (by decide) 0 _, h.b.setCell (p := ⟨b5 + 3, 0, none⟩) (by show n0 ≤ b5 + 3; omega) _⟩
theorem OI.fr8 {n0 b5 fk : Nat} {w : World} {s : SA} {W : World} {v : Value} (h : OI n0 b5 fk w s W v) (hn : n0 ≤ b5) (x : Int) : OI n0 b5 fk w ⟨x, s.on, s.out⟩ (W.setCell ⟨b5 + 2, 0, none⟩ (.int .i64 x)) v :=
  ⟨blk_far h.h5 (by show b5 ≠ b5 + 2; omega) _, blk_far h.h7 (by show b5 + 1 ≠ b5 + 2; omega) _, blk_set h.h8 0 _, blk_far h.h9 (by show b5 + 3 ≠ b5 + 2; omega) _, Kd.R_set h.r h.h8 (by decide) 0 _, h.b.setCell (p := ⟨b5 + 2, 0, none⟩) (by show n0 ≤ b5 + 2; omega) _⟩
theorem row_ne {W : World} {ok : Nat → Prop} {v : Value} {xs : List Rg} (h : kR.R 31 W 0 ok v xs) {k : Nat} {o : Obj} (hk : W.heap[k]? = some o) (ho : ∀ cs, o ≠ Obj.cells cs 31 (0, 0)) : some k ≠ v.ownBlock := fun e => by
  obtain ⟨cs, hcs⟩ := row_block h e.symm
  rw [hk] at hcs
  injection hcs with hcs
  exact ho cs hcs
theorem OI.app {n0 b5 fk : Nat} {w : World} {s : SA} {W W' : World} {v v' : Value} {x : Rg} (h : OI n0 b5 fk w s W v) (hn : n0 ≤ b5) (hg : W.grownBy W' v.ownBlock) (hr : kR.R 31 W' 0 (fun j => n0 ≤ j) v' (s.out ++ [x])) (hw : n0 ≤ w.heap.size) :
    OI n0 b5 fk w ⟨s.fr, s.on, s.out ++ [x]⟩ (W'.setCell ⟨b5 + 1, 0, none⟩ v') v' ∧ KeepsOthers W (W'.setCell ⟨b5 + 1, 0, none⟩ v') ∧ KT W (W'.setCell ⟨b5 + 1, 0, none⟩ v') := by
  have low : ∀ k o, W.heap[k]? = some o → (∀ cs, o ≠ Obj.cells cs 31 (0, 0)) → W'.heap[k]? = some o := fun k o hk ho => (hg.block k (Array.getElem?_eq_some_iff.1 hk).1 (row_ne h.r hk ho)).trans hk
  have typ : ∀ (cs cs' : Array Value) (t : TypeId), t ≠ 31 → (Obj.cells cs t (0, 0)) ≠ Obj.cells cs' 31 (0, 0) := fun cs cs' t ht e => by
    injection e with _ e
    exact ht e
  have g5 := low _ _ h.h5 (fun cs => typ _ cs _ (by decide))
  have g7 := low _ _ h.h7 (fun cs => typ _ cs _ (by decide))
  have g8 := low _ _ h.h8 (fun cs => typ _ cs _ (by decide))
  have g9 := low _ _ h.h9 (fun cs => typ _ cs _ (by decide))
  have hb : Below n0 w W' := h.b.grown hg (Nat.le_trans hw h.b.size) (fun k e => h.r.1 k e)
  refine ⟨⟨blk_far g5 (by show b5 ≠ b5 + 1; omega) _, blk_set g7 0 _, blk_far g8 (by show b5 + 2 ≠ b5 + 1; omega) _, blk_far g9 (by show b5 + 3 ≠ b5 + 1; omega) _, Kd.R_set hr g7 (by decide) 0 _, hb.setCell (p := ⟨b5 + 1, 0, none⟩) (by show n0 ≤ b5 + 1; omega) _⟩, ?_, ?_⟩
  · have h1 : KeepsOthers W W' := ⟨hg.size, fun k o hk ho => low k o hk (fun cs e => by rw [e] at ho; cases ho)⟩
    exact h1.trans (KeepsOthers.setCell _ _ _)
  · have h1 : KT W W' := fun k row t ht hk => low k _ hk (fun cs => typ _ cs _ (by rcases ht with rfl | rfl | rfl <;> decide))
    exact h1.trans (KT.set g7 (by decide) _)
theorem foldY_len (P : Bool → Bool → Bool) : ∀ (Y : List Yd) (s : SA), (Y.foldl (stepY P) s).out.length ≤ s.out.length + Y.length
  | [], s => by simp
  | y :: Y, s => by
    rw [List.foldl_cons]
    have h := foldY_len P Y (stepY P s y)
    have h2 : (stepY P s y).out.length ≤ s.out.length + 1 := by unfold stepY; split <;> (try split) <;> simp
    simp only [List.length_cons]
    omega
/-- turns' iterator where there is nothing. -/
theorem turns2_none (n : Nat) (hn : 1 ≤ n) (p c : Nat) (A : Option Addr) (w : World) (hp : w.heap[p]? = some (.cells #[.slice A 0 c] 53 (0, 0))) : GoesOver Fence.wide n Try.prog 42 #[pv p] encY 52 KT [] w := by
  intro l J W hW hJ hY h0
  have cp : W.cell? ⟨p, 0, none⟩ = some (.slice A 0 c) := cell_of_row _ _ 0 _ _ _ ((hW.block p (blk_lt hp)).trans hp)
  obtain ⟨V, hV⟩ : ∃ V, W.alloc (.cells #[.int .i64 0, .int .i64 0] 52) = V := ⟨_, rfl⟩
  have H0V : Aside0 (J [] V) := ⟨by rw [← hV]; exact hJ [] W _ none h0 (World.grownBy_alloc W _ none) (fun r e => by cases e)⟩
  have cpV := pw_cell_below (show Below W.heap.size W V from by rw [← hV]; exact below_alloc (Below.refl _ W) _) cp
  clear hp hJ hY h0 hW cp
  refine callsIn_of_wp Try.func42 rfl trivial ?_ rfl
  simp only [Try.ntmps42, List.size_toArray, List.length_cons, List.length_nil, Nat.reduceAdd, Nat.reduceSub, Array.replicate_succ, Array.replicate_zero, List.push_toArray, List.append_toArray, List.nil_append, List.cons_append]
  gi_wp2
  gi_loopg [8] 0 (fun gk v8 wr => v8 = .int .i64 0 ∧ Aside0 (J [] wr))
  case atStart => exact ⟨rfl, H0V⟩
  case round =>
    obtain ⟨rfl, HJ0⟩ := hrel
    gi_wp2
    go_end0
    exact ⟨⟨_, rfl⟩, HJ0.out⟩
set_option maxRecDepth 100000 in
set_option maxHeartbeats 4000000 in
theorem fun30_c (x y : Bool) (w : World) : Calls Try.prog 30 #[.bool x, .bool y] w fun e w' => e = .returned (.bool ((fun x y => x || y) x y)) ∧ w' = w := by
  cases x <;> cases y
  all_goals
    go_enter Try.func30, Try.ntmps30
    go_wp2_with (fail)
    go_ret
    exact ⟨rfl, rfl⟩
set_option maxRecDepth 100000 in
set_option maxHeartbeats 4000000 in
theorem fun31_c (x y : Bool) (w : World) : Calls Try.prog 31 #[.bool x, .bool y] w fun e w' => e = .returned (.bool ((fun x y => x && !y) x y)) ∧ w' = w := by
  cases x <;> cases y
  all_goals
    go_enter Try.func31, Try.ntmps31
    go_wp2_with (fail)
    go_ret
    exact ⟨rfl, rfl⟩
set_option maxRecDepth 100000 in
set_option maxHeartbeats 4000000 in
theorem fun32_c (x y : Bool) (w : World) : Calls Try.prog 32 #[.bool x, .bool y] w fun e w' => e = .returned (.bool ((fun x y => x && y) x y)) ∧ w' = w := by
  cases x <;> cases y
  all_goals
    go_enter Try.func32, Try.ntmps32
    go_wp2_with (fail)
    go_ret
    exact ⟨rfl, rfl⟩
set_option maxRecDepth 100000 in
set_option maxHeartbeats 16000000 in
theorem of30_in (n : Nat) (hn : 6 ≤ n) (A : Option Addr) (N c : Nat) (a : List Rg) (B : Option Addr) (M d : Nat) (b : List Rg) (w : World) (hA : ReadsRow RRg 2 w A N a) (hB : ReadsRow RRg 2 w B M b) (hnm : N + M ≤ 100000) :
    CallsIn Fence.wide n Try.prog 29 #[.slice A N c, .slice B M d, .func (.func 30) #[] #[]] w fun e w' => OfP w (fun x y => x || y) a b e w' := by
  have h1 : 1 ≤ n := by omega
  refine callsIn_of_wp_marks Try.func29 rfl trivial ?_ rfl
  simp only [Try.ntmps29, List.size_toArray, List.length_cons, List.length_nil, Nat.reduceAdd, Nat.reduceSub, Array.replicate_succ, Array.replicate_zero, List.push_toArray, List.append_toArray, List.nil_append, List.cons_append]
  have HA := Aside0.mk hA
  have HB_ := Aside0.mk hB
  clear hA hB
  gi_upto_region 3 with (fail)
  obtain ⟨b5, hb5⟩ : ∃ q, w.heap.size = q := ⟨_, rfl⟩
  obtain ⟨w1, hw1⟩ : ∃ q, w.alloc (.cells #[.func (.func 30) #[] #[]] 44) = q := ⟨_, rfl⟩
  have s1 : w1.heap.size = b5 + 1 := by rw [← hw1, ← hb5]; simp
  have n1 : w1.heap[b5]? = some (.cells #[.func (.func 30) #[] #[]] 44 (0, 0)) := by rw [← hw1, ← hb5]; exact heap_alloc_new _ _
  have l1 : Below w.heap.size w w1 := by rw [← hw1]; exact below_alloc (Below.refl _ w) _
  obtain ⟨w2, hw2⟩ : ∃ q, w1.alloc (.cells #[.slice none 0 0] 22) = q := ⟨_, rfl⟩
  have s2 : w2.heap.size = b5 + 2 := by rw [← hw2]; simp [s1]
  have n2 : w2.heap[b5 + 1]? = some (.cells #[.slice none 0 0] 22 (0, 0)) := by rw [← hw2, ← s1]; exact heap_alloc_new _ _
  have l2 : Below w1.heap.size w1 w2 := by rw [← hw2]; exact below_alloc (Below.refl _ w1) _
  obtain ⟨w3, hw3⟩ : ∃ q, w2.alloc (.cells #[.int .i64 0] 3) = q := ⟨_, rfl⟩
  have s3 : w3.heap.size = b5 + 3 := by rw [← hw3]; simp [s2]
  have n3 : w3.heap[b5 + 2]? = some (.cells #[.int .i64 0] 3 (0, 0)) := by rw [← hw3, ← s2]; exact heap_alloc_new _ _
  have l3 : Below w2.heap.size w2 w3 := by rw [← hw3]; exact below_alloc (Below.refl _ w2) _
  obtain ⟨w4, hw4⟩ : ∃ q, w3.alloc (.cells #[.bool false] 4) = q := ⟨_, rfl⟩
  have s4 : w4.heap.size = b5 + 4 := by rw [← hw4]; simp [s3]
  have n4 : w4.heap[b5 + 3]? = some (.cells #[.bool false] 4 (0, 0)) := by rw [← hw4, ← s3]; exact heap_alloc_new _ _
  have l4 : Below w3.heap.size w3 w4 := by rw [← hw4]; exact below_alloc (Below.refl _ w3) _
  rw [hw1, hw2, hw3, hw4, hb5]
  have l34 : Below w2.heap.size w2 w4 := l3.trans (l4.mono l3.size)
  have l24 : Below w1.heap.size w1 w4 := l2.trans (l34.mono l2.size)
  have l14 : Below w.heap.size w w4 := l1.trans (l24.mono l1.size)
  have H4 : Aside0 (OI w.heap.size b5 30 w ⟨0, false, []⟩ w4 (.slice none 0 0)) := ⟨⟨(l24.block _ (blk_lt n1)).trans n1, (l34.block _ (blk_lt n2)).trans n2, (l4.block _ (blk_lt n3)).trans n3, n4, Kd.R_nil _ _ _ _ _, l14⟩⟩
  have S4 : Aside0 (w.heap.size = b5 ∧ w4.heap.size = b5 + 4) := ⟨hb5, s4⟩
  have HTU := Aside0.mk (turns_c A N c a B M d b w4 (rgs_below HA.out l14) (rgs_below HB_.out l14) hnm)
  clear hw1 hw2 hw3 hw4 hb5 s1 s2 s3 s4 n1 n2 n3 n4 l1 l2 l3 l4 l34 l24 l14
  gi_wp2_with (refine ⟨trivial, ?_⟩; gi_at_call 38; refine (callsIn_wide.2 HTU.out).mono ?_)
  rintro _ w5 ⟨p, A3, n3, c3, E, rfl, hp5, hread, hkind, hform, hperm, hsrt, hlen, hpw, hbl⟩
  have hmem : ∀ e ∈ E, (e.w = 0 ∨ e.w = 1) ∧ (e.b = 1 ∨ e.b = -1) := fun e he => by
    rcases List.mem_append.1 (hperm.mem_iff.1 he) with h | h
    · exact ⟨.inl (mem_evl h).1, (mem_evl h).2.2⟩
    · exact ⟨.inr (mem_evl h).1, (mem_evl h).2.2⟩
  have hseq : GoesOver Fence.wide (n - 1) Try.prog 42 #[pv p] encY 52 KT (yl E (0, 0)) w5 := by
    rcases Nat.eq_zero_or_pos n3 with h0 | h0
    · subst h0
      have hE : E = [] := List.length_eq_zero_iff.1 hread.1
      rw [hE]
      exact turns2_none (n - 1) (by omega) p c3 A3 w5 hp5
    · obtain ⟨g, rfl⟩ := hform h0
      refine turns2_over (n - 1) (by omega) p g n3 c3 E w5 hp5 hread (hkind g rfl) hmem ?_ h0
      rw [HA.out.1, HB_.out.1] at hlen
      omega
  have HPR := Aside0.mk hperm
  have HSR := Aside0.mk hsrt
  have HEL : Aside0 (E.length ≤ 1000000) := ⟨by have h := hread.1; rw [HA.out.1, HB_.out.1] at hlen; omega⟩
  have H5 : Aside0 (OI w.heap.size b5 30 w ⟨0, false, []⟩ w5 (.slice none 0 0)) := ⟨H4.out.turn (row := none) (Nat.le_refl _) (grown_of_below hbl none) (fun r e => by cases e)⟩
  have S5 : Aside0 (b5 + 4 ≤ w5.heap.size) := ⟨by have := hbl.size; have := S4.out.2; omega⟩
  clear hp5 hread hkind hform hperm hsrt hlen hpw hbl hmem HTU H4
  gi_wp2
  refine range_all (α := Yd) (F := Fence.wide) rfl h1 (gf := 42) (lb := #[pv p]) rfl trivial (enters_of Try.func42 (by kernel_rfl) rfl) hseq KT.trans KT.put (Below.refl _ _) (fun _ => rfl)
    (fun pre W => ∃ v, OI w.heap.size b5 30 w (pre.foldl (stepY (fun x y => x || y)) ⟨0, false, []⟩) W v) ?hI ⟨_, H5.out⟩
    (fun t W => (∃ v, OI w.heap.size b5 30 w (t.1.foldl (stepY (fun x y => x || y)) ⟨0, false, []⟩) W v) ∧ ∃ bX, b5 + 4 ≤ bX ∧ W.heap[bX]? = some (.cells #[.int .i64 t.2.1.x, .int .i64 t.2.1.y] 52 (0, 0)) ∧
      t.2.2 = { tmps := #[.slice A N c, .slice B M d, .func (.func 30) #[] #[], undef, undef, pv b5, .slice none 0 0, pv (b5 + 1), pv (b5 + 1 + 1), pv (b5 + 1 + 1 + 1), .int .i64 t.2.1.p, pv bX, undef, .slice A N c, .slice B M d, .func (.func 42) #[] #[pv p], .int .i64 t.2.1.p, .agg #[.int .i64 t.2.1.x, .int .i64 t.2.1.y], undef, undef, undef, undef, undef, undef, undef, undef, undef, undef, undef, undef, undef, undef, undef, undef, undef, undef, undef, undef, undef, undef, undef, undef, undef, undef, undef, undef, undef], defers := [] }) ?hAx ?assign ?body ?done
  case hI =>
    rintro s Wa Wb row ⟨v, hI⟩ hg hr
    exact ⟨v, hI.turn (Nat.le_refl _) hg (fun r e => by
      obtain ⟨h1, o, h2, h3⟩ := hr r e
      exact ⟨by have := S5.out; omega, by have := S5.out; have := S4.out.1; omega, o, h2, h3⟩)⟩
  case hAx =>
    rintro s Wa Wb row ⟨⟨v, hI⟩, bX, hb, hx, he⟩ hg hr
    refine ⟨⟨v, hI.turn (Nat.le_refl _) hg (fun r e => ?_)⟩, bX, hb, ?_, he⟩
    · obtain ⟨h1, o, h2, h3⟩ := hr r e
      exact ⟨by have := S5.out; omega, by have := S5.out; have := S4.out.1; omega, o, h2, .inl h3⟩
    · refine (hg.block bX (blk_lt hx) (fun e => ?_)).trans hx
      obtain ⟨h1, o, h2, h3⟩ := hr bX e.symm
      rw [hx] at h2
      injection h2 with h2
      subst h2
      cases h3
  case assign =>
    rintro l pre x W ⟨v, hI⟩ -
    have HI := Aside0.mk hI
    clear hI
    dsimp only [encY]
    gi_wp2
    exact ⟨KeepsOthers.alloc _ _, KT.of_below (below_alloc (Below.refl _ W) _), ⟨v, HI.out.turn (Nat.le_refl _) (World.grownBy_alloc W _ none) (fun r e => by cases e)⟩, W.heap.size, by have := blk_lt HI.out.h9; omega, heap_alloc_new _ _, rfl⟩
  case body =>
    rintro l pre x a1 W ⟨⟨v, hI⟩, bX, hbX, hx, ha1⟩ hpre
    have HPL : Aside0 (pre.length ≤ E.length) := ⟨by have h1 := hpre.length_le; have h2 := len_yl E (0, 0); rw [List.length_append] at h1; omega⟩
    clear hpre
    dsimp only at hI hx ha1
    subst ha1
    have hfold : (pre ++ [x]).foldl (stepY (fun x y => x || y)) ⟨0, false, []⟩ = stepY (fun x y => x || y) (pre.foldl (stepY (fun x y => x || y)) ⟨0, false, []⟩) x := by rw [List.foldl_append]; rfl
    rw [hfold]
    obtain ⟨s, hs⟩ : ∃ s, pre.foldl (stepY (fun x y => x || y)) ⟨0, false, []⟩ = s := ⟨_, rfl⟩
    have HSL : Aside0 (s.out.length ≤ 1000000) := ⟨by have h1 := foldY_len (fun x y => x || y) pre ⟨0, false, []⟩; rw [hs] at h1; simp only [List.length_nil] at h1; have h2 := HPL.out; have h3 := HEL.out; omega⟩
    rw [hs] at hI ⊢
    obtain ⟨A7, c7, hv, _, _⟩ := Kd.R_reads hI.r
    obtain ⟨n7, hn7⟩ : ∃ q, s.out.length = q := ⟨_, rfl⟩
    rw [hn7] at hv
    subst hv
    have c5 : W.cell? ⟨b5, 0, none⟩ = some (.func (.func 30) #[] #[]) := cell_of_row _ _ 0 _ _ _ hI.h5
    have c8 : W.cell? ⟨b5 + 1 + 1, 0, none⟩ = some (.int .i64 s.fr) := cell_of_row _ _ 0 _ _ _ hI.h8
    have c9 : W.cell? ⟨b5 + 1 + 1 + 1, 0, none⟩ = some (.bool s.on) := cell_of_row _ _ 0 _ _ _ hI.h9
    have f8 := blk_frozen hI.h8 0
    have f9 := blk_frozen hI.h9 0
    have x0 : W.cell? ⟨bX, 0, none⟩ = some (.int .i64 x.x) := cell_of_row _ _ 0 _ _ _ hx
    have x1 : W.cell? ⟨bX, 1, none⟩ = some (.int .i64 x.y) := cell_of_row _ _ 1 _ _ _ hx
    have HI := Aside0.mk hI
    have HN7 := Aside0.mk hn7
    have hst : stepY (fun x y => x || y) s x = if ((fun x y => x || y) (decide (0 < x.x)) (decide (0 < x.y)) && !s.on) = true then ⟨x.p, (fun x y => x || y) (decide (0 < x.x)) (decide (0 < x.y)), s.out⟩ else if (!(fun x y => x || y) (decide (0 < x.x)) (decide (0 < x.y)) && s.on) = true then ⟨s.fr, (fun x y => x || y) (decide (0 < x.x)) (decide (0 < x.y)), s.out ++ [⟨s.fr, x.p⟩]⟩ else ⟨s.fr, (fun x y => x || y) (decide (0 < x.x)) (decide (0 < x.y)), s.out⟩ := rfl
    have HST := Aside0.mk hst
    have HFK := Aside0.mk (fun W' => fun30_c (decide (0 < x.x)) (decide (0 < x.y)) W')
    obtain ⟨nv, hnv⟩ : ∃ q, (fun x y => x || y) (decide (0 < x.x)) (decide (0 < x.y)) = q := ⟨_, rfl⟩
    obtain ⟨on, hon⟩ : ∃ q, s.on = q := ⟨_, rfl⟩
    rw [hnv, hon] at HST
    rw [hnv] at HFK
    rw [hon] at c9
    clear hI hx hfold hs hn7 hst hnv hon
    cases nv <;> cases on
    · gi_wp2_with (refine ⟨trivial, fun h => (by simp [Fence.wide] at h), ?_⟩; gi_at_call 30; refine (CallsIn.inRound l (callsIn_wide.2 (HFK.out _))).mono ?_; rintro _ w9 ⟨rfl, h9⟩; rw [h9]; clear h9 w9)
      have hsx : stepY (fun x y => x || y) s x = ⟨s.fr, false, s.out⟩ := HST.out
      rw [hsx]
      exact ⟨KeepsOthers.setCell _ _ _, KT.set HI.out.h9 (by decide) _, _, HI.out.on9 (by have := S4.out.1; omega) false⟩
    · have hsx : stepY (fun x y => x || y) s x = ⟨s.fr, false, s.out ++ [⟨s.fr, x.p⟩]⟩ := HST.out
      rw [hsx]
      gi_upto_region 10 with (refine ⟨trivial, fun h => (by simp [Fence.wide] at h), ?_⟩; gi_at_call 30; refine (CallsIn.inRound l (callsIn_wide.2 (HFK.out _))).mono ?_; rintro _ w9 ⟨rfl, h9⟩; rw [h9]; clear h9 w9)
      refine region_round_list ?hdef ?_
      case hdef => intro i o ho c hc; have hi := (Array.getElem?_eq_some_iff.1 ho).1; simp at hi; match i, hi, ho with | 0, _, ho => (cases ho; cases hc) | 1, _, ho => (cases ho; cases hc) | 2, _, ho => (cases ho; cases hc) | 3, _, ho => (cases ho; cases hc) | 4, _, ho => (cases ho; cases hc) | 5, _, ho => (cases ho; cases hc) | 6, _, ho => (cases ho; cases hc)
      have c7' : W.cell? ⟨b5 + 1, 0, none⟩ = some (.slice A7 n7 c7) := cell_of_row _ _ 0 _ _ _ HI.out.h7
      have hn8 : n7 ≤ 1000000 := by have h := HSL.out; rw [HN7.out] at h; exact h
      have HR7 := Aside0.mk HI.out.r
      go_wp2_with (at_builtin; refine Kd.R_append kR (w0 := W) 0 rfl (.tmp 39) (.tmp 43) 22 31 (.agg #[.int .i64 0, .int .i64 0]) 16 rfl Try.underlying22 info31 rfl (by decide) (by decide) (.slice A7 n7 c7) s.out ⟨s.fr, x.p⟩ [.int .i64 s.fr, .int .i64 x.p] (fun j => w.heap.size ≤ j) (fun _ => False) rfl rfl rfl (fun _ h => h.elim) (fun j hj => Nat.le_trans HI.out.b.size hj) HR7.out (Below.refl _ _) (Nat.zero_le _) (by rw [HN7.out]; omega) ?_; intro v8 w8 hR8 _ hg8 hat8; obtain ⟨A8, c8', hv8, _, _⟩ := Kd.R_reads hR8; rw [show (s.out ++ [(⟨s.fr, x.p⟩ : Rg)]).length = n7 + 1 from (by rw [List.length_append, HN7.out]; rfl)] at hv8; subst hv8; have HR8 := Aside0.mk hR8; have HG8 := Aside0.mk hg8; have h78 := (hg8.block _ (blk_lt HI.out.h7) (Kd.R_ne HR7.out HI.out.h7 (by decide))).trans HI.out.h7; have c78 := cell_of_row _ _ 0 _ _ _ h78; have f78 := blk_frozen h78 0; have H78 := Aside0.mk h78; clear hR8 hg8 hat8 h78)
      refine Only.normal ?_
      obtain ⟨w9, hw9⟩ : ∃ q, w8.setCell ⟨b5 + 1, 0, none⟩ (.slice A8 (n7 + 1) c8') = q := ⟨_, rfl⟩
      obtain ⟨hi9, ko9, kt9⟩ := HI.out.app (by have := S4.out.1; omega) HG8.out HR8.out (Nat.le_refl _)
      rw [hw9] at hi9 ko9 kt9
      rw [hw9]
      have c9 : w9.cell? ⟨b5 + 1 + 1 + 1, 0, none⟩ = some (.bool s.on) := cell_of_row _ _ 0 _ _ _ hi9.h9
      have f9 := blk_frozen hi9.h9 0
      have HI9 := Aside0.mk hi9
      have KO9 := Aside0.mk ko9
      have KT9 := Aside0.mk kt9
      clear hw9 hi9 ko9 kt9 c78 f78 c7' c5 c8 f8 x0 x1
      gi_wp2
      exact ⟨KO9.out.trans (KeepsOthers.setCell _ _ _), KT9.out.trans (KT.set HI9.out.h9 (by decide) _), _, HI9.out.on9 (by have := S4.out.1; omega) false⟩
    · gi_wp2_with (refine ⟨trivial, fun h => (by simp [Fence.wide] at h), ?_⟩; gi_at_call 30; refine (CallsIn.inRound l (callsIn_wide.2 (HFK.out _))).mono ?_; rintro _ w9 ⟨rfl, h9⟩; rw [h9]; clear h9 w9)
      have hsx : stepY (fun x y => x || y) s x = ⟨x.p, true, s.out⟩ := HST.out
      rw [hsx]
      have hi2 := HI.out.fr8 (by have := S4.out.1; omega) x.p
      exact ⟨(KeepsOthers.setCell _ _ _).trans (KeepsOthers.setCell _ _ _), (KT.set HI.out.h8 (by decide) _).trans (KT.set hi2.h9 (by decide) _), _, hi2.on9 (by have := S4.out.1; omega) true⟩
    · gi_wp2_with (refine ⟨trivial, fun h => (by simp [Fence.wide] at h), ?_⟩; gi_at_call 30; refine (CallsIn.inRound l (callsIn_wide.2 (HFK.out _))).mono ?_; rintro _ w9 ⟨rfl, h9⟩; rw [h9]; clear h9 w9)
      have hsx : stepY (fun x y => x || y) s x = ⟨s.fr, true, s.out⟩ := HST.out
      rw [hsx]
      exact ⟨KeepsOthers.setCell _ _ _, KT.set HI.out.h9 (by decide) _, _, HI.out.on9 (by have := S4.out.1; omega) true⟩
  case done =>
    rintro D W hD ⟨v, hI⟩ hK
    obtain ⟨k1, k2, k3⟩ := prog_ok (P := fun x y => x || y) rfl HPR.out HSR.out
    obtain ⟨s, hs⟩ : ∃ s, (yl E (0, 0)).foldl (stepY (fun x y => x || y)) ⟨0, false, []⟩ = s := ⟨_, rfl⟩
    rw [hs] at hI k1 k2 k3
    obtain ⟨A7, c7, hv, _, _⟩ := Kd.R_reads hI.r
    subst hv
    have c7' : W.cell? ⟨b5 + 1, 0, none⟩ = some (.slice A7 s.out.length c7) := cell_of_row _ _ 0 _ _ _ hI.h7
    have hD2 : w.heap.size ≤ D := by have := S5.out; have := S4.out.1; omega
    have hfin : OfP w (fun x y => x || y) a b (.returned (.slice A7 s.out.length c7)) (W.putObj D (.deferred none)) := by
      refine ⟨_, s.out, rfl, kd_turn hI.r (fun k hk hlt => ?_), k1, k2, k3, hI.b.trans (belowK_b (w := w) (Nat.le_refl _) W D _ _ hD2 hK rfl rfl)⟩
      refine World.putObj_heap_other (fun e => ?_)
      obtain ⟨cs, hcs⟩ := row_block hI.r hk
      rw [e, hK] at hcs
      injection hcs with hcs
      cases hcs
    have HF := Aside0.mk hfin
    clear hfin k1 k2 k3 hs hI hseq
    gi_wp2
    refine ⟨by simp, .inl ⟨_, _, rfl, run_takeDeferred hK, ?_⟩⟩
    refine ⟨_, results_tmp rfl _ _ _, ?_⟩
    exact HF.out
end Go.Proofs.Ytcbddmmoioggaaa.Sp
