/- A table that is asked anything tells what the document says: the law's walk. -/
import Derived.Test.YtbmjeopnahmbgaaAc
namespace Go.Proofs.Ytbmjeopnahmbgaa.In
open Go.RowKit Go.Proofs.YtbmjeopnahmbgaaW.PrintWords Go.Proofs.YtbmjeopnahmbgaaW.PrintLast Go.Proofs.YtbmjeopnahmbgaaW.PrintMore
open Go.WideShapes
set_option linter.unusedVariables false

/-- Both tables, apart. -/
structure Both (w : World) (B : Nat) (p q : Nat) (L : List (Array Value)) : Prop where
  mk ::
  out : ∃ ok1 ok2 : Nat → Prop, IT w B ok1 p L ∧ RT w B ok2 q L ∧ (∀ k, ok1 k → ok2 k → False) ∧ (∀ k, ok1 k → k < w.heap.size) ∧ (∀ k, ok2 k → k < w.heap.size)
theorem Both.below {w w' : World} {B p q : Nat} {L : List (Array Value)} (h : Both w B p q L) (hb : Below w.heap.size w w') : Both w' B p q L := by
  obtain ⟨ok1, ok2, h1, h2, h3, h4, h5⟩ := h.out
  exact ⟨ok1, ok2, h1.below hb, h2.below hb, h3, fun k hk => Nat.lt_of_lt_of_le (h4 k hk) hb.size, fun k hk => Nat.lt_of_lt_of_le (h5 k hk) hb.size⟩
theorem IdR.one {L L1 L2 : List (Array Value)} {x : Array Value} {i j : Int} (hn : L.Nodup) (h : IdR L x i L1) (h' : IdR L x j L2) : i = j ∧ L1 = L2 := by
  rcases h with ⟨k, rfl, hk, rfl⟩ | ⟨hx, rfl, rfl⟩ <;> rcases h' with ⟨k', rfl, hk', rfl⟩ | ⟨hx', rfl, rfl⟩
  · have := (List.getElem?_inj (List.getElem?_eq_some_iff.1 hk).1 hn).1 (hk.trans hk'.symm)
    exact ⟨by rw [this], rfl⟩
  · exact absurd (List.mem_of_getElem? hk) hx'
  · exact absurd (List.mem_of_getElem? hk') hx
  · exact ⟨rfl, rfl⟩
theorem IdR.len {L L1 : List (Array Value)} {x : Array Value} {i : Int} (h : IdR L x i L1) : L1.length ≤ L.length + 1 := by
  rcases h with ⟨k, rfl, hk, rfl⟩ | ⟨hx, rfl, rfl⟩ <;> simp
theorem IT.nodup {w : World} {B : Nat} {ok : Nat → Prop} {p : Nat} {L : List (Array Value)} (h : IT w B ok p L) : L.Nodup := by
  obtain ⟨mb, v, D, h1, h2, h3, h4, h5, h6, h7, h8, h9⟩ := h.out
  exact h8

theorem StateR.one {L : List (Array Value)} {id : Int} {y y' : Array Value} {n n' : Int} (h : StateR L id y n) (h' : StateR L id y' n') : y = y' ∧ n = n' := by
  rcases h with ⟨a, b, hy, rfl⟩ | ⟨hn, rfl, rfl⟩ <;> rcases h' with ⟨a', b', hy', rfl⟩ | ⟨hn', rfl, rfl⟩
  · exact ⟨Option.some.inj (hy.symm.trans hy'), rfl⟩
  · exact absurd ⟨a, b⟩ hn'
  · exact absurd ⟨a', b'⟩ hn
  · exact ⟨rfl, rfl⟩
theorem StateR.st {w : World} {B : Nat} {ok : Nat → Prop} {p : Nat} {L : List (Array Value)} (h : IT w B ok p L) {id : Int} {y : Array Value} {n : Int} (hy : StateR L id y n) : IsSt y := by
  rcases hy with ⟨a, b, hy, rfl⟩ | ⟨hn, rfl, rfl⟩
  · exact h.st y (List.mem_of_getElem? hy)
  · exact isSt_z
theorem Both.drewN {w : World} {B p q : Nat} {L : List (Array Value)} (h : Both w B p q L) (n : Nat) : Both (w.drewN n) B p q L := by
  obtain ⟨ok1, ok2, h1, h2, h3, h4, h5⟩ := h.out
  exact ⟨ok1, ok2, h1.move (fun _ _ _ => rfl), h2.move (fun _ _ _ => rfl), h3, h4, h5⟩
theorem range_of_block {w w' : World} {b o : Nat} {cs : List Value} (h : w.rangeAt b o cs) (hb : w'.heap[b]? = w.heap[b]?) : w'.rangeAt b o cs := fun j v hj => (World.cell?_of_block hb).trans (h j v hj)

set_option maxRecDepth 100000 in
set_option maxHeartbeats 4000000 in
theorem plays_c (A : Option Addr) (n c : Nat) (l : List Ask) (w : World) (hR : ReadsRow RA 84 w A n l) : Calls Try.prog 3 #[.slice A n c] w fun e w' => e = .returned (.bool true) ∧ Below w.heap.size w w' := by
  have HR := Aside0.mk hR
  have hn : l.length = n := hR.1
  have hm := hR.2.1
  clear hR
  go_enter Try.func3, Try.ntmps3
  by_cases hl : 300 < n
  · have b0 : decide ((300 : Int) < (n : Int)) = true := decide_eq_true (by omega)
    go_wp2_with (refine (wakes_c _).mono ?_)
    rintro _ w1 ⟨rfl, hb⟩
    have HB := Aside0.mk hb
    clear hb
    go_wp2_with (fail)
    go_ret
    exact ⟨rfl, HB.out⟩
  · have b0 : decide ((300 : Int) < (n : Int)) = false := decide_eq_false (by omega)
    go_wp2_with (refine (new_c _).mono ?_)
    rintro _ w1 ⟨p, rfl, h1, b1⟩
    have hs1 := b1.size
    obtain ⟨w2, hw2⟩ : ∃ w2, w1.alloc (.cells #[.slice none 0 0] 29) = w2 := ⟨_, rfl⟩
    have b2 : Below w1.heap.size w1 w2 := by rw [← hw2]; exact below_alloc (Below.refl _ w1) _
    have hq : w2.heap[w1.heap.size]? = some (.cells #[.slice none 0 0] 29 (0, 0)) := by rw [← hw2]; exact heap_alloc_new _ _
    have hb2 : Below w.heap.size w w2 := b1.trans (b2.mono hs1)
    have HBO : Aside0 (Both w2 w.heap.size p w1.heap.size []) := ⟨⟨_, fun k => k = w1.heap.size, h1.bound.below b2, ⟨.slice none 0 0, hq, rfl, hs1, Kd.R_nil _ _ _ _ _⟩, fun k h1 h2 => by have := h1.2; omega, fun k h1 => Nat.lt_of_lt_of_le h1.2 b2.size, fun k h1 => by rw [h1]; exact blk_lt hq⟩⟩
    have HB2 := Aside0.mk hb2
    obtain ⟨q, hq0⟩ : ∃ q, w1.heap.size = q := ⟨_, rfl⟩
    rw [hq0] at HBO
    clear h1 b1 hs1 b2 hq hb2
    go_upto_block 0 with (fail)
    clear hw2 hq0
    go_wp2_with (fail)
    go_loopg [5] n (fun gk v5 wr => ∃ (k : Nat) (L : List (Array Value)), v5 = .int .i64 (k : Int) ∧ Aside0 (Both wr w.heap.size p q L) ∧ Aside0 (Below w.heap.size w wr) ∧ Aside0 (L.length ≤ k) ∧ Aside0 (k + gk = n))
    case atStart => exact ⟨0, [], rfl, HBO, HB2, ⟨by simp⟩, ⟨by omega⟩⟩
    case round =>
      clear HBO HB2
      obtain ⟨k, L, rfl, HBO, HB, HL, HK⟩ := hrel
      by_cases hkn : k < n
      · obtain ⟨gn, rfl⟩ : ∃ gn, gk = gn + 1 := ⟨gk - 1, by have := HK.out; omega⟩
        obtain ⟨a, ha⟩ : ∃ a, l[k]? = some a := ⟨_, List.getElem?_eq_getElem (by omega)⟩
        obtain ⟨ad, hA, _⟩ := HR.out.2.2 (by omega)
        subst hA
        obtain ⟨hsa, hat⟩ := ask_at HR.out ha
        have hat' : ∀ j v, a.cells.toList[j]? = some v → wr.cell? ((ad.add (k * 84)).add j) = some v := fun j v hj => pw_cell_below HB.out (hat j v hj)
        have HAT := Aside0.mk hat'
        have HSA := Aside0.mk hsa
        have HZ : Aside0 ((wr.alloc (.cells zA.cells 39)).heap[wr.heap.size]? = some (.cells zA.cells 39 (0, 0))) := ⟨heap_alloc_new _ _⟩
        obtain ⟨w3, hw3⟩ : ∃ w3, (wr.alloc (.cells zA.cells 39)).setRow wr.heap.size a.cells = w3 := ⟨_, rfl⟩
        have b3 : Below wr.heap.size wr w3 := by rw [← hw3]; exact below_setRowS (below_alloc (Below.refl _ wr) _) (Nat.le_refl _) _
        have hb3 : w3.heap[wr.heap.size]? = some (.cells a.cells 39 (0, 0)) := by rw [← hw3]; exact setRow_heap _ _ _ _ _ _ HZ.out
        have HB3 := Aside0.mk hb3
        obtain ⟨ok1, ok2, h1, h2, h3, h4, h5⟩ := HBO.out.out
        obtain ⟨b, hbq⟩ : ∃ b, wr.heap.size = b := ⟨_, rfl⟩
        have h1b : ∀ j, ok1 j → j ≠ b := fun j hj => by have := h4 j hj; omega
        have h2b : ∀ j, ok2 j → j ≠ b := fun j hj => by have := h5 j hj; omega
        have h4' : ∀ j, ok1 j → j < w3.heap.size := fun j hj => Nat.lt_of_lt_of_le (h4 j hj) b3.size
        have h5' : ∀ j, ok2 j → j < w3.heap.size := fun j hj => Nat.lt_of_lt_of_le (h5 j hj) b3.size
        have H1 := Aside0.mk (h1.below b3)
        have H2 := Aside0.mk (h2.below b3)
        have HBW : Aside0 (Below w.heap.size w w3) := ⟨HB.out.trans (b3.mono HB.out.size)⟩
        have c0 := ask_d hb3
        have c1 := ask_n hb3
        have hbs := blk_lt hb3
        have hws := HBW.out.size
        rw [hbq] at HB3 hb3 c0 c1 hbs
        have hrx := ask_state hb3
        have p0 : (0 : Int) ≤ (k : Int) := by omega
        have p1 : (k : Int) < (n : Int) := by omega
        clear hat hat' hsa ha b3 hb3 HBO HB h4 h5 h1 h2
        go_upto_region 9 with (first
          | (refine wpList_runV (by rfl) _ (exec_load_any rfl Try.underlying39 (infoAL HSA.out) _ _ _ (by rfl) (by rfl) _ HAT.out) ?_)
          | (refine wpList_runV (by rfl) _ (exec_allocA _ _ (by rfl) _) ?_)
          | (refine wpList_store_row (by rfl) 39 _ _ (by rfl) wr.heap.size a.cells (by rfl) (by rfl) 39 zA.cells HZ.out (by rw [infoA, Ask.size HSA.out]) (by rw [sizeZA, Ask.size HSA.out]) (Ask.one HSA.out) ?_))
        try rw [hw3]
        try rw [hbq]
        clear hw3 HZ HAT
        by_cases e0 : a.d = 0
        · have e0b : (a.d == 0) = true := beq_iff_eq.mpr e0
          have hu := Try.underlying37
          have hix := infoSL HSA.out
          clear e0
          go_upto_region 15 with (fail)
          refine wp_region_noPanic ?_
          refine wp_region_held_drew (S := (fun w' => w'.rangeAt b 2 a.x.toList)) (by kernel_rfl) ?_ (fun hHeld => ?_)
          · exact hrx
          refine wpAnyH_take (i := 0) (v := ?_) rfl (by kernel_rfl) (by kernel_rfl) (by kernel_rfl) (fun _ _ _ h => h) (Or.inl ⟨by rfl, ?_⟩) (by assumption) ?_
          rotate_left
          · intro w hSw
            go_simp
            try with_reducible rfl
          try simp only [Act.put, List.getElem_toArray, List.getElem_cons_zero, List.getElem_cons_succ, List.setIfInBounds_toArray, List.set_cons_zero, List.set_cons_succ]
          refine wpAnyH_take (i := 1) (v := ?_) rfl (by kernel_rfl) (by kernel_rfl) (by kernel_rfl) (fun _ _ _ h => h) (Or.inl ⟨by rfl, ?_⟩) (by assumption) ?_
          rotate_left
          · intro w hSw
            go_simp
            try with_reducible rfl
          try simp only [Act.put, List.getElem_toArray, List.getElem_cons_zero, List.getElem_cons_succ, List.setIfInBounds_toArray, List.set_cons_zero, List.set_cons_succ]
          refine wpAnyH_take (i := 4) (v := ?_) rfl (by kernel_rfl) (by kernel_rfl) (by kernel_rfl) (fun _ _ _ h => h) (Or.inl ⟨by rfl, ?_⟩) (by assumption) ?_
          rotate_left
          · intro w hSw
            go_simp
            try with_reducible rfl
          try simp only [Act.put, List.getElem_toArray, List.getElem_cons_zero, List.getElem_cons_succ, List.setIfInBounds_toArray, List.set_cons_zero, List.set_cons_succ]
          refine wpAnyH_take (i := 5) (v := ?_) rfl (by kernel_rfl) (by kernel_rfl) (by kernel_rfl) (fun _ _ _ h => h) (Or.inl ⟨by rfl, ?_⟩) (by assumption) ?_
          rotate_left
          · intro w hSw
            go_simp
            try with_reducible rfl
          try simp only [Act.put, List.getElem_toArray, List.getElem_cons_zero, List.getElem_cons_succ, List.setIfInBounds_toArray, List.set_cons_zero, List.set_cons_succ]
          refine wpAnyH_take (i := 2) rfl (by kernel_rfl) (by kernel_rfl) (by kernel_rfl) (fun _ _ _ h => h) (yieldsIf_load_mid (by rfl) _ _ rfl _ _ rfl _ _ (fun w hSw => hSw) Try.underlying37 rfl hix) (by assumption) ?_
          try simp only [Act.put, List.getElem_toArray, List.getElem_cons_zero, List.getElem_cons_succ, List.setIfInBounds_toArray, List.set_cons_zero, List.set_cons_succ]
          refine wpAnyH_take (i := 6) rfl (by kernel_rfl) (by kernel_rfl) (by kernel_rfl) (fun _ _ _ h => h) (yieldsIf_load_mid (by rfl) _ _ rfl _ _ rfl _ _ (fun w hSw => hSw) Try.underlying37 rfl hix) (by assumption) ?_
          try simp only [Act.put, List.getElem_toArray, List.getElem_cons_zero, List.getElem_cons_succ, List.setIfInBounds_toArray, List.set_cons_zero, List.set_cons_succ]
          refine wpAnyH_ready (rs := [3]) (by kernel_rfl) (by simp) ?_
          refine AllReadyH.cons rfl (fun K hK => ?_) AllReadyH.nil
          go_simp
          refine (id_c p L a.x HSA.out (by have := HL.out; have := HK.out; omega) w3.drew w.heap.size ok1 (H1.out.move (fun _ _ _ => rfl)) hws).mono ?_
          rintro _ w4 ⟨i, L', rfl, hi, h4t, hb4, hfr⟩
          have hrx4 : w4.rangeAt b 2 a.x.toList := range_of_block hrx (hfr b hbs (fun h => h1b b h rfl))
          have hdz : w3.drew.heap.size = w3.heap.size := rfl
          have hsz4 : w3.heap.size ≤ w4.heap.size := hb4.size
          have h2q : RT w4 w.heap.size ok2 q L := H2.out.move (fun j hj hjs => hfr j hjs (fun h => h3 j h hj))
          have H2Q := Aside0.mk h2q
          have H4 := Aside0.mk h4t
          have HB4 := Aside0.mk ((below_drew HBW.out).trans hb4)
          have HI := Aside0.mk hi
          refine hK.out _ _ hrx4 (fun hHeld2 => ?_)
          clear hK K hHeld hfr hi h4t hb4 h2q
          try simp only [Act.put, List.getElem_toArray, List.getElem_cons_zero, List.getElem_cons_succ, List.setIfInBounds_toArray, List.set_cons_zero, List.set_cons_succ]
          refine wpAnyH_ready (rs := [7]) (by kernel_rfl) (by simp) ?_
          refine AllReadyH.cons rfl (fun K hK => ?_) AllReadyH.nil
          go_simp
          refine (rid_c q L a.x HSA.out (by have := HL.out; have := HK.out; omega) w4 w.heap.size ok2 H2Q.out (Nat.le_trans hws hsz4)).mono ?_
          rintro _ w5 ⟨i', L2, rfl, hi', h5t, hb5, hfr⟩
          obtain ⟨rfl, rfl⟩ := IdR.one (H1.out.nodup) HI.out hi'
          have hrx5 : w5.rangeAt b 2 a.x.toList := range_of_block hrx4 (hfr b (Nat.lt_of_lt_of_le hbs hsz4) (fun h => h2b b h rfl))
          have hsz5 : w4.heap.size ≤ w5.heap.size := hb5.size
          have HBO : Aside0 (Both w5 w.heap.size p q L') := ⟨⟨_, _, (H4.out.bound).move (fun j hj hjs => hfr j hjs (fun h => by rcases hj.1 with h1 | h1; exact h3 j h1 h; have := h5' j h; omega)), h5t.bound, fun j hj hj' => by
              rcases hj.1 with h1 | h1
              · rcases hj'.1 with h2 | h2
                · exact h3 j h1 h2
                · have := hj.2; omega
              · rcases hj'.1 with h2 | h2
                · have := h5' j h2; omega
                · have := hj.2; omega, fun j hj => Nat.lt_of_lt_of_le hj.2 hsz5, fun j hj => hj.2⟩⟩
          have HB := Aside0.mk (HB4.out.trans hb5)
          have HL2 : Aside0 (L'.length ≤ k + 1) := ⟨by have := HI.out.len; have := HL.out; omega⟩
          refine hK.out _ _ hrx5 (fun hHeld3 => ?_)
          clear hK K hHeld2 hfr hi' h5t hb5
          try simp only [Act.put, List.getElem_toArray, List.getElem_cons_zero, List.getElem_cons_succ, List.setIfInBounds_toArray, List.set_cons_zero, List.set_cons_succ]
          refine wpAnyH_take (i := 8) (v := ?_) rfl (by kernel_rfl) (by kernel_rfl) (by kernel_rfl) (fun _ _ _ h => h) (Or.inl ⟨by rfl, ?_⟩) (by assumption) ?_
          rotate_left
          · intro w hSw
            go_simp
            try with_reducible rfl
          try simp only [Act.put, List.getElem_toArray, List.getElem_cons_zero, List.getElem_cons_succ, List.setIfInBounds_toArray, List.set_cons_zero, List.set_cons_succ]
          refine wpAnyH_done (by kernel_rfl) ?_ _
          refine NoPanic.normal ?_
          clear hrx hrx4 hrx5 hu hix
          obtain ⟨o1, o2, t1, t2, t3, t4, t5⟩ := HBO.out.out
          obtain ⟨Aq, cq, _, dq0, _, _, _, _⟩ := t2.open
          have T1 := Aside0.mk t1
          clear t1 t2 t3 t4 t5
          go_upto_region 22 with (fail)
          go_quiet (refine Calls.quiet_of_same (len_c p _ _ _ _ (T1.out.move (fun _ _ _ => rfl))))
          go_wp2_with (fail)
          go_roundg gn
          case measure => exact Nat.lt_succ_self _
          case rel => exact ⟨k + 1, _, by simp, ⟨HBO.out.drewN _⟩, ⟨pw_below_drewN HB.out _⟩, HL2, ⟨by have := HK.out; omega⟩⟩
        · have e0b : (a.d == 0) = false := beq_eq_false_iff_ne.mpr e0
          clear e0
          by_cases e1 : a.d = 1
          · have e1b : (a.d == 1) = true := beq_iff_eq.mpr e1
            clear e1
            go_wp2_with (first
              | (refine wpList_runV (by rfl) _ (exec_loadS HSA.out _ _ _ (by rfl) (by rfl) _ hrx) ?_)
              | (refine (find_c p L a.x HSA.out (by have := HL.out; have := HK.out; omega) w3 w.heap.size ok1 H1.out).mono ?_))
            rintro _ w4 ⟨⟨i, b1, rfl, hf1⟩, hb4⟩
            have hrx4 : w4.rangeAt b 2 a.x.toList := range_of_block hrx (hb4.block b hbs)
            have H2Q := Aside0.mk (H2.out.below hb4)
            have H14 := Aside0.mk (H1.out.below hb4)
            have HB4 := Aside0.mk (HBW.out.trans (hb4.mono hws))
            have hsz4 : w3.heap.size ≤ w4.heap.size := hb4.size
            have HF := Aside0.mk hf1
            clear hb4 hf1 hrx
            go_wp2_with (first
              | (refine wpList_runV (by rfl) _ (exec_loadS HSA.out _ _ _ (by rfl) (by rfl) _ hrx4) ?_)
              | (refine (rfind_c q L a.x HSA.out (by have := HL.out; have := HK.out; omega) w4 w.heap.size ok2 H2Q.out).mono ?_))
            rintro _ w5 ⟨⟨i', b1', rfl, hf2⟩, hb5⟩
            obtain ⟨rfl, rfl⟩ := FindR.one H14.out.nodup HF.out hf2
            have hsz5 : w4.heap.size ≤ w5.heap.size := hb5.size
            have HBO : Aside0 (Both w5 w.heap.size p q L) := ⟨⟨ok1, ok2, H14.out.below hb5, H2Q.out.below hb5, h3, fun j hj => by have := h4' j hj; omega, fun j hj => by have := h5' j hj; omega⟩⟩
            have HB := Aside0.mk (HB4.out.trans (hb5.mono (by omega)))
            have HL2 : Aside0 (L.length ≤ k + 1) := ⟨by have := HL.out; omega⟩
            clear hb5 hf2 hrx4
            obtain ⟨o1, o2, t1, t2, t3, t4, t5⟩ := HBO.out.out
            obtain ⟨Aq, cq, _, dq0, _, _, _, _⟩ := t2.open
            have T1 := Aside0.mk t1
            clear t1 t2 t3 t4 t5
            go_upto_region 22 with (fail)
            go_quiet (refine Calls.quiet_of_same (len_c p _ _ _ _ (T1.out.move (fun _ _ _ => rfl))))
            go_wp2_with (fail)
            go_roundg gn
            case measure => exact Nat.lt_succ_self _
            case rel => exact ⟨k + 1, _, by simp, ⟨HBO.out.drewN _⟩, ⟨pw_below_drewN HB.out _⟩, HL2, ⟨by have := HK.out; omega⟩⟩
          · have e1b : (a.d == 1) = false := beq_eq_false_iff_ne.mpr e1
            clear e1
            go_wp2_with (refine (state_c p L a.n (by have := HL.out; have := HK.out; omega) w3 w.heap.size ok1 H1.out).mono ?_)
            rintro _ w4 ⟨⟨y, er, rfl, hs1⟩, hb4⟩
            have hsy : IsSt y := StateR.st H1.out hs1
            have HY := Aside0.mk hsy
            have hz4 := heap_alloc_new w4 (.cells zS 37)
            obtain ⟨w5, hw5⟩ : ∃ w5, (w4.alloc (.cells zS 37)).setRow w4.heap.size y = w5 := ⟨_, rfl⟩
            have b5 : Below w4.heap.size w4 w5 := by rw [← hw5]; exact below_setRowS (below_alloc (Below.refl _ w4) _) (Nat.le_refl _) _
            have hr5 : w5.heap[w4.heap.size]? = some (.cells y 37 (0, 0)) := by rw [← hw5]; exact setRow_heap _ _ _ _ _ _ hz4
            have hr45 : w5.heap[b]? = w3.heap[b]? := (b5.block b (Nat.lt_of_lt_of_le hbs hb4.size)).trans (hb4.block b hbs)
            have k1 : w5.cell? ⟨b, 1, none⟩ = some (.int .i64 a.n) := (World.cell?_of_block hr45).trans c1
            have hb45 : Below w3.heap.size w3 w5 := hb4.trans (b5.mono hb4.size)
            have H15 := Aside0.mk (H1.out.below hb45)
            have H25 := Aside0.mk (H2.out.below hb45)
            have HB5 := Aside0.mk (HBW.out.trans (hb45.mono hws))
            have hsz5 : w3.heap.size ≤ w5.heap.size := hb45.size
            have HZ4 := Aside0.mk hz4
            have HS1 := Aside0.mk hs1
            have HR5 := Aside0.mk hr5
            have hs45 : w4.heap.size < w5.heap.size := blk_lt hr5
            clear hb4 hs1 hsy hz4 b5 hr5 hr45 hb45 c0 c1 hrx
            go_upto_region 11 with (first
              | (refine wpList_runV (by rfl) _ (exec_allocS _ _ (by rfl) _) ?_)
              | (refine wpList_store_row (by rfl) 37 _ _ (by rfl) w4.heap.size y (by rfl) (by rfl) 37 zS HZ4.out (by rw [infoS, HY.out.size]) (by rw [sizeZ, HY.out.size]) (oneAll HY.out) ?_))
            try rw [hw5]
            clear hw5
            go_wp2_with (refine (rstate_c q L a.n (by have := HL.out; have := HK.out; omega) w5 w.heap.size ok2 H25.out).mono ?_)
            rintro _ w6 ⟨⟨y', er', rfl, hs2⟩, hb6⟩
            obtain ⟨rfl, rfl⟩ := StateR.one HS1.out hs2
            have hz6 := heap_alloc_new w6 (.cells zS 37)
            obtain ⟨w7, hw7⟩ : ∃ w7, (w6.alloc (.cells zS 37)).setRow w6.heap.size y = w7 := ⟨_, rfl⟩
            have b7 : Below w6.heap.size w6 w7 := by rw [← hw7]; exact below_setRowS (below_alloc (Below.refl _ w6) _) (Nat.le_refl _) _
            have hr7 : w7.heap[w6.heap.size]? = some (.cells y 37 (0, 0)) := by rw [← hw7]; exact setRow_heap _ _ _ _ _ _ hz6
            have hr57 : w7.heap[w4.heap.size]? = some (.cells y 37 (0, 0)) := (b7.block _ (Nat.lt_of_lt_of_le hs45 hb6.size)).trans ((hb6.block _ hs45).trans HR5.out)
            have hb57 : Below w5.heap.size w5 w7 := hb6.trans (b7.mono hb6.size)
            have HBO : Aside0 (Both w7 w.heap.size p q L) := ⟨⟨ok1, ok2, H15.out.below hb57, H25.out.below hb57, h3, fun j hj => by have := h4' j hj; have := hb57.size; omega, fun j hj => by have := h5' j hj; have := hb57.size; omega⟩⟩
            have HB := Aside0.mk (HB5.out.trans (hb57.mono (by omega)))
            have HL2 : Aside0 (L.length ≤ k + 1) := ⟨by have := HL.out; omega⟩
            have RA1 : Aside0 (w7.rangeAt w4.heap.size 0 y.toList) := ⟨fun j v hj => by rw [Nat.zero_add, cell_of_row _ _ _ _ _ _ hr57]; simpa using hj⟩
            have RA2 : Aside0 (w7.rangeAt w6.heap.size 0 y.toList) := ⟨fun j v hj => by rw [Nat.zero_add, cell_of_row _ _ _ _ _ _ hr7]; simpa using hj⟩
            have HZ6 := Aside0.mk hz6
            clear hb6 hs2 hz6 b7 hr7 hr57 hb57 k1
            go_upto_region 12 with (first
              | (refine wpList_runV (by rfl) _ (exec_allocS _ _ (by rfl) _) ?_)
              | (refine wpList_store_row (by rfl) 37 _ _ (by rfl) w6.heap.size y (by rfl) (by rfl) 37 zS HZ6.out (by rw [infoS, HY.out.size]) (by rw [sizeZ, HY.out.size]) (oneAll HY.out) ?_))
            try rw [hw7]
            clear hw7
            go_upto_region 22 with (first
              | (refine wpList_runV (by rfl) _ (exec_loadS HY.out _ _ _ (by rfl) (by rfl) _ RA1.out) ?_)
              | (refine wpList_runV (by rfl) _ (exec_loadS HY.out _ _ _ (by rfl) (by rfl) _ RA2.out) ?_)
              | (refine wpList_runV (by rfl) _ (exec_ne_self HY.out _ _ _ _ _ (by rfl) (by rfl) (by rfl) _) ?_))
            obtain ⟨o1, o2, t1, t2, t3, t4, t5⟩ := HBO.out.out
            obtain ⟨Aq, cq, _, dq0, _, _, _, _⟩ := t2.open
            have T1 := Aside0.mk t1
            clear t1 t2 t3 t4 t5
            go_upto_region 22 with (fail)
            go_quiet (refine Calls.quiet_of_same (len_c p _ _ _ _ (T1.out.move (fun _ _ _ => rfl))))
            go_wp2_with (fail)
            go_roundg gn
            case measure => exact Nat.lt_succ_self _
            case rel => exact ⟨k + 1, _, by simp, ⟨HBO.out.drewN _⟩, ⟨pw_below_drewN HB.out _⟩, HL2, ⟨by have := HK.out; omega⟩⟩
      · have b1 : decide ((k : Int) < (n : Int)) = false := decide_eq_false (by omega)
        go_wp2_with (refine (wakes_c _).mono ?_)
        rintro _ w3 ⟨rfl, hb⟩
        have hfin := Aside0.mk (HB.out.trans (hb.mono HB.out.size))
        clear hb
        go_wp2_with (fail)
        go_ret
        exact ⟨rfl, hfin.out⟩
end Go.Proofs.Ytbmjeopnahmbgaa.In
