/- The ends sorted: slices.SortFunc by its contract. -/
import Derived.Test.YtcbddmmoioggaaaSt
import Derived.Shelf.SlSortCmp.WholeK
namespace Go.Proofs.Ytcbddmmoioggaaa.Sp
open Go.RowKit Go.Shelf Go.Proofs.YtcbddmmoioggaaaW.PrintWords Go.Proofs.YtcbddmmoioggaaaW.PrintLast Go.Proofs.YtcbddmmoioggaaaW.PrintMore
attribute [local go_sem] max2_int min2_int max_two min_two max_three min_three max_four min_four
set_option linter.unusedVariables false
set_option linter.unusedSimpArgs false
def sortEnd_ren : Go.Shelf.Ren := ⟨fun | 6 => 39 | 15 => 44 | 14 => 43 | 28 => 54 | 29 => 55 | 20 => 46 | 21 => 47 | 22 => 48 | 23 => 49 | 24 => 50 | 25 => 51 | 26 => 52 | 27 => 53 | 46 => 56 | 47 => 57 | 48 => 58 | 49 => 59 | 50 => 60 | 57 => 61 | n => n, fun | 22 => 53 | 24 => 56 | 25 => 59 | 3 => 3 | 39 => 63 | 0 => 0 | 53 => 73 | 55 => 75 | 4 => 4 | 46 => 66 | 45 => 65 | 50 => 70 | 5 => 5 | 9 => 9 | 66 => 76 | 70 => 80 | 76 => 82 | 77 => 83 | n => n, fun | n => n⟩
theorem sortEnd : Go.Proofs.SlLaysF0.n6 Try.prog sortEnd_ren := {
  mixed := by kernel_rfl
  f6 := ⟨Try.f39.name, by decide, Try.func39.trans (congrArg some (by kernel_rfl))⟩
  f14 := ⟨Try.f43.name, by decide, Try.func43.trans (congrArg some (by kernel_rfl))⟩
  f15 := Try.func44.trans (congrArg some (by kernel_rfl))
  f20 := ⟨Try.f46.name, by decide, Try.func46.trans (congrArg some (by kernel_rfl))⟩
  f21 := ⟨Try.f47.name, by decide, Try.func47.trans (congrArg some (by kernel_rfl))⟩
  f22 := ⟨Try.f48.name, by decide, Try.func48.trans (congrArg some (by kernel_rfl))⟩
  f23 := ⟨Try.f49.name, by decide, Try.func49.trans (congrArg some (by kernel_rfl))⟩
  f24 := ⟨Try.f50.name, by decide, Try.func50.trans (congrArg some (by kernel_rfl))⟩
  f25 := ⟨Try.f51.name, by decide, Try.func51.trans (congrArg some (by kernel_rfl))⟩
  f26 := ⟨Try.f52.name, by decide, Try.func52.trans (congrArg some (by kernel_rfl))⟩
  f27 := ⟨Try.f53.name, by decide, Try.func53.trans (congrArg some (by kernel_rfl))⟩
  f28 := Try.func54.trans (congrArg some (by kernel_rfl))
  f29 := Try.func55.trans (congrArg some (by kernel_rfl))
  f46 := ⟨Try.f56.name, by decide, Try.func56.trans (congrArg some (by kernel_rfl))⟩
  f47 := Try.func57.trans (congrArg some (by kernel_rfl))
  f48 := Try.func58.trans (congrArg some (by kernel_rfl))
  f49 := ⟨Try.f59.name, by decide, Try.func59.trans (congrArg some (by kernel_rfl))⟩
  f50 := ⟨Try.f60.name, by decide, Try.func60.trans (congrArg some (by kernel_rfl))⟩
  f57 := ⟨Try.f61.name, by decide, Try.func61.trans (congrArg some (by kernel_rfl))⟩
  t0 := Try.underlying0
  a0 := Try.isAgg0
  z0 := Try.sizeOf0
  v0 := Try.zeroValue0
  t3 := Try.underlying3
  a3 := Try.isAgg3
  z3 := Try.sizeOf3
  v3 := Try.zeroValue3
  t4 := Try.underlying4
  a4 := Try.isAgg4
  z4 := Try.sizeOf4
  v4 := Try.zeroValue4
  t5 := Try.underlying5
  a5 := Try.isAgg5
  z5 := Try.sizeOf5
  v5 := Try.zeroValue5
  t9 := Try.underlying9
  a9 := Try.isAgg9
  z9 := Try.sizeOf9
  v9 := Try.zeroValue9
  t22 := Try.underlying53
  a22 := Try.isAgg53
  z22 := Try.sizeOf53
  v22 := Try.zeroValue53
  t25 := Try.underlying59
  a25 := Try.isAgg59
  z25 := Try.sizeOf59
  v25 := Try.zeroValue59
  t39 := Try.underlying63
  a39 := Try.isAgg63
  z39 := Try.sizeOf63
  v39 := Try.zeroValue63
  t45 := Try.underlying65
  a45 := Try.isAgg65
  z45 := Try.sizeOf65
  v45 := Try.zeroValue65
  t46 := Try.underlying66
  a46 := Try.isAgg66
  z46 := Try.sizeOf66
  v46 := Try.zeroValue66
  t50 := Try.underlying70
  a50 := Try.isAgg70
  z50 := Try.sizeOf70
  v50 := Try.zeroValue70
  t53 := Try.underlying73
  a53 := Try.isAgg73
  z53 := Try.sizeOf73
  v53 := Try.zeroValue73
  t55 := Try.underlying75
  a55 := Try.isAgg75
  z55 := Try.sizeOf75
  v55 := Try.zeroValue75
  t66 := Try.underlying76
  a66 := Try.isAgg76
  z66 := Try.sizeOf76
  v66 := Try.zeroValue76
  t70 := Try.underlying80
  a70 := Try.isAgg80
  z70 := Try.sizeOf80
  v70 := Try.zeroValue80
  t76 := Try.underlying82
  a76 := Try.isAgg82
  z76 := Try.sizeOf82
  v76 := Try.zeroValue82
  t77 := Try.underlying83
  a77 := Try.isAgg83
  z77 := Try.sizeOf83
  v77 := Try.zeroValue83 }
instance : Inhabited En := ⟨⟨0, 0, 0⟩⟩
def enc3 (x : En) : List Value := [.int .i64 x.a, .int .i64 x.w, .int .i64 x.b]
def cmpI (x y : Int) : Int := if x < y then -1 else if y < x then 1 else 0
set_option maxRecDepth 100000 in
set_option maxHeartbeats 4000000 in
theorem nan_c (x : Int) (w : World) : Calls Try.prog 45 #[.int .i64 x] w fun e w' => e = .returned (.bool false) ∧ w' = w := by
  go_enter Try.func45, Try.ntmps45
  go_wp2_with (fail)
  go_ret
  exact ⟨rfl, rfl⟩
set_option maxRecDepth 100000 in
set_option maxHeartbeats 4000000 in
theorem cmp_c (x y : Int) (w : World) : Calls Try.prog 41 #[.int .i64 x, .int .i64 y] w fun e w' => e = .returned (.int .i64 (cmpI x y)) ∧ w' = w := by
  have H1 := Aside0.mk (nan_c x w)
  have H2 := Aside0.mk (nan_c y w)
  by_cases h1 : x < y
  · have hc : cmpI x y = -1 := by unfold cmpI; rw [if_pos h1]
    rw [hc]
    clear hc
    go_enter Try.func41, Try.ntmps41
    go_wp2_with (first
      | (refine H1.out.mono ?_; rintro _ w9 ⟨rfl, h9⟩; rw [h9]; clear h9 w9)
      | (refine H2.out.mono ?_; rintro _ w9 ⟨rfl, h9⟩; rw [h9]; clear h9 w9))
    go_ret
    exact ⟨rfl, rfl⟩
  by_cases h2 : y < x
  · have hc : cmpI x y = 1 := by unfold cmpI; rw [if_neg h1, if_pos h2]
    rw [hc]
    clear hc
    go_enter Try.func41, Try.ntmps41
    go_wp2_with (first
      | (refine H1.out.mono ?_; rintro _ w9 ⟨rfl, h9⟩; rw [h9]; clear h9 w9)
      | (refine H2.out.mono ?_; rintro _ w9 ⟨rfl, h9⟩; rw [h9]; clear h9 w9))
    go_ret
    exact ⟨rfl, rfl⟩
  · have hc : cmpI x y = 0 := by unfold cmpI; rw [if_neg h1, if_neg h2]
    rw [hc]
    clear hc
    go_enter Try.func41, Try.ntmps41
    go_wp2_with (first
      | (refine H1.out.mono ?_; rintro _ w9 ⟨rfl, h9⟩; rw [h9]; clear h9 w9)
      | (refine H2.out.mono ?_; rintro _ w9 ⟨rfl, h9⟩; rw [h9]; clear h9 w9))
    go_ret
    exact ⟨rfl, rfl⟩
set_option maxRecDepth 100000 in
set_option maxHeartbeats 4000000 in
theorem closure40 (x y : En) (W : World) : Calls Try.prog 40 #[.agg (enc3 x).toArray, .agg (enc3 y).toArray] W fun e w' => e = .returned (.int .i64 (cmpI x.a y.a)) ∧ ∃ q os', w' = Go.Sort.grow (W.drewN q) os' := by
  have hcon := fun W' => cmp_c x.a y.a W'
  obtain ⟨r, hr⟩ : ∃ r, cmpI x.a y.a = r := ⟨_, rfl⟩
  rw [hr] at hcon ⊢
  have HC := Aside0.mk hcon
  clear hcon hr
  simp only [enc3]
  go_enter Try.func40, Try.ntmps40
  go_wp2_with (go_at_call 41; refine (HC.out _).mono ?_; rintro _ w9 ⟨rfl, h9⟩; rw [h9]; clear h9 w9)
  go_ret
  exact ⟨rfl, 0, _, by rw [Go.Sort.alloc_eq_grow, Go.Sort.alloc_eq_grow, Go.Sort.grow_grow]; rfl⟩
theorem cmpLays40 (blk off size : Nat) (w : World) : CmpLays Try.prog 40 #[] enc3 3 (fun x y => cmpI x.a y.a) blk off size w :=
  fun _ _ _ _ x y => closure40 x y _
theorem ltEn (x y : En) : ltOf (fun x y : En => cmpI x.a y.a) x y = decide (x.a < y.a) := by
  unfold ltOf cmpI
  by_cases h1 : x.a < y.a
  · simp [h1]
  · by_cases h2 : y.a < x.a <;> simp [h1, h2]
theorem swoEn : Go.Sort.SWO (ltOf fun x y : En => cmpI x.a y.a) where
  irrefl x := by rw [ltEn]; simp
  trans x y z h1 h2 := by rw [ltEn] at *; simp at *; omega
  ntrans x y z h1 h2 := by rw [ltEn] at *; simp at *; omega
def REn (e : En) (cs : List Value) : Prop := cs = enc3 e
theorem sortSome_c (g c : Nat) (E : Array En) (w : World) (hH : Go.Sort.HoldsK enc3 3 w g 0 E) (hblk : g < w.heap.size) (hsz : E.size < 4611686018427387904) :
    Calls Try.prog 39 #[.slice (some ⟨g, 0, none⟩) E.size c, .func (.func 40) #[] #[]] w fun e w' => e = .returned (.tuple #[]) ∧ ∃ d' n os, Go.Sort.PermIn 0 E.size E d' ∧ Go.Sort.SortedIn (ltOf fun x y : En => cmpI x.a y.a) 0 E.size d' ∧ w' = sortWorldK enc3 3 w g 0 n d' os := by
  have eg : ∀ args w, (callFunc 40 args).run Try.prog w = .ok (.enter 40 args) w := enters_of Try.func40 (by kernel_rfl) rfl
  exact AnyQ.slices_SortFunc sortEnd 3 Try.isAgg56 Try.sizeOf56 enc3 (fun _ => rfl) (fun x v hv => by simp [enc3] at hv; rcases hv with rfl | rfl | rfl <;> rfl) (fun x y => cmpI x.a y.a) swoEn 40 #[] g 0 c E w eg (cmpLays40 g 0 E.size w) hH hblk hsz
end Go.Proofs.Ytcbddmmoioggaaa.Sp
