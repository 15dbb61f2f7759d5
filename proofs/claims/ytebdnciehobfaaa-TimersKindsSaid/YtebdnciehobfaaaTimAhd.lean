/- Which of two times comes first. No condition. -/
import Derived.Test.YtebdnciehobfaaaTim
import Derived.WalkLawsBesides
namespace Go.Proofs.Ytebdnciehobfaaa
open Go.RowKit Go.Maps
set_option linter.unusedVariables false
set_option linter.unusedSimpArgs false

set_option maxHeartbeats 2000000 in
theorem ahead_any (x y : Int × Int) (w : World) :
    Calls Try.prog 38 #[tv x, tv y] w fun e w' => e = .returned (.bool (ahd x y)) ∧ w.grownBy w' none := by
  obtain ⟨a, t⟩ := x
  obtain ⟨b, u⟩ := y
  unfold tv
  dsimp only
  have o1 : obj ((w.alloc (.cells #[.int .i64 a, .int .u64 t] 76)).alloc (.cells #[.int .i64 b, .int .u64 u] 76)) w.heap.size 76 [.int .i64 a, .int .u64 t] := (obj.new w _ _).alloc _
  have o2 : obj ((w.alloc (.cells #[.int .i64 a, .int .u64 t] 76)).alloc (.cells #[.int .i64 b, .int .u64 u] 76)) (w.heap.size + 1) 76 [.int .i64 b, .int .u64 u] := by
    have := obj.new (w.alloc (.cells #[.int .i64 a, .int .u64 t] 76)) 76 [.int .i64 b, .int .u64 u]
    simpa using this
  have c0 := o1.cell 0 rfl
  have c1 := o1.cell 1 rfl
  have d0 := o2.cell 0 rfl
  have d1 := o2.cell 1 rfl
  clear o1 o2
  by_cases h1 : a < b
  · go_enter Try.func38, Try.ntmps38
    go_wp2
    go_ret
    refine ⟨?_, only_alloc (only_alloc (only_refl _ _) _) _⟩
    simp [ahd, h1]
  by_cases h2 : a = b
  · by_cases h3 : t < u
    · go_enter Try.func38, Try.ntmps38
      go_wp2
      go_ret
      refine ⟨?_, only_alloc (only_alloc (only_refl _ _) _) _⟩
      simp [ahd, h1, h2, h3]
    · go_enter Try.func38, Try.ntmps38
      go_wp2
      go_ret
      refine ⟨?_, only_alloc (only_alloc (only_refl _ _) _) _⟩
      simp [ahd, h1, h2, h3]
  · go_enter Try.func38, Try.ntmps38
    go_wp2
    go_ret
    refine ⟨?_, only_alloc (only_alloc (only_refl _ _) _) _⟩
    simp [ahd, h1, h2]
end Go.Proofs.Ytebdnciehobfaaa
