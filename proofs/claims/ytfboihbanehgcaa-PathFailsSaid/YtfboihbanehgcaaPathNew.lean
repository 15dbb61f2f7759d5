/- New of the path and of its reference; the config by few numbers. Conditions: whether the config may be. -/
import Derived.Test.YtfboihbanehgcaaPathDo
namespace Go.Proofs.Ytfboihbanehgcaa
open Go.RowKit
set_option linter.unusedVariables false
set_option linter.unusedSimpArgs false

structure CF where
  paths : Int
  mtu : Int
  streams : Int
  sroom : Int
  rroom : Int
  cap : Int
  ri : Int
  rl : Int
  rm : Int
  delay : Int
  life : Int
  beat : Int
  retrans : Int
  tries : Int
def CF.cells (c : CF) : Array Value := #[.int .i64 c.paths, .int .i64 c.mtu, .int .i64 c.streams, .int .i64 c.sroom, .int .i64 c.rroom, .int .i64 c.cap, .int .i64 c.ri, .int .i64 c.rl, .int .i64 c.rm, .int .i64 c.delay, .int .i64 c.life, .int .i64 c.beat, .int .i64 c.retrans, .int .i64 c.tries]
def CF.fits (c : CF) (now : Int) : Prop := Go.Proofs.Ytfboihbanehgcaa.fits c.ri c.rl c.rm ∧ wfits c.mtu c.cap ∧ 0 ≤ c.retrans ∧ c.retrans ≤ 20 ∧ 1 ≤ c.beat ∧ c.beat ≤ 1048576 ∧ 0 ≤ now ∧ now ≤ 2305843009213693952
instance (c : CF) (now : Int) : Decidable (c.fits now) := by unfold CF.fits; infer_instance
def PS.init (c : CF) (now : Int) : PS := ⟨0, c.retrans, now + c.beat, c.beat, false, RS.init c.ri c.rl c.rm, WS.init c.mtu c.cap⟩
theorem pok_init {c : CF} {now : Int} (h : c.fits now) : (PS.init c now).ok 0 := by
  obtain ⟨h1, h2, h3, h4, h5, h6, h7, h8⟩ := h
  refine ⟨Int.le_refl 0, ?_, h3, h4, ?_, ?_, h5, h6, ok_init h1, wok_init h2 (Int.le_refl 0)⟩
  · show (0 : Int) ≤ c.retrans + 1; omega
  · show 0 ≤ now + c.beat; omega
  · show now + c.beat ≤ 2305843009215791104; omega
def NewPath (w : World) (x : PS) (e : Ending) (w' : World) : Prop := ∃ p : PP, e = .returned (.tuple #[.pointer (some ⟨p.b, 0, none⟩), .int .i64 0]) ∧ isPath w' p x ∧ p.within w.heap.size w'.heap.size ∧ w.grownBy w' none
def NewRef (w : World) (x : PS) (e : Ending) (w' : World) : Prop := ∃ p : PP, e = .returned (.tuple #[.pointer (some ⟨p.s, 0, none⟩), .int .i64 0]) ∧ isRef w' p x ∧ p.within w.heap.size w'.heap.size ∧ w.grownBy w' none

set_option maxRecDepth 100000 in
set_option maxHeartbeats 2000000 in
theorem pnew_any (c : CF) (now : Int) (h : c.fits now) (w : World) :
    Calls Try.prog 10 #[.agg c.cells, .int .i64 now] w (NewPath w (PS.init c now)) := by
  obtain ⟨c0, c1, c2, c3, c4, c5, c6, c7, c8, c9, c10, c11, c12, c13⟩ := c
  unfold CF.cells
  obtain ⟨k1, k2, k3, k4, k5, k6, k7, k8⟩ := h
  simp only at k1 k2 k3 k4 k5 k6 k7 k8
  have K1 := Lib.hid k1
  have K2 := Lib.hid k2
  clear k1 k2
  have hb0 := obj.new w 29 [.int .i64 c0, .int .i64 c1, .int .i64 c2, .int .i64 c3, .int .i64 c4, .int .i64 c5, .int .i64 c6, .int .i64 c7, .int .i64 c8, .int .i64 c9, .int .i64 c10, .int .i64 c11, .int .i64 c12, .int .i64 c13]
  have HB := Lib.hid (show obj (w.alloc (.cells #[.int .i64 c0, .int .i64 c1, .int .i64 c2, .int .i64 c3, .int .i64 c4, .int .i64 c5, .int .i64 c6, .int .i64 c7, .int .i64 c8, .int .i64 c9, .int .i64 c10, .int .i64 c11, .int .i64 c12, .int .i64 c13] 29)) w.heap.size 29 [.int .i64 c0, .int .i64 c1, .int .i64 c2, .int .i64 c3, .int .i64 c4, .int .i64 c5, .int .i64 c6, .int .i64 c7, .int .i64 c8, .int .i64 c9, .int .i64 c10, .int .i64 c11, .int .i64 c12, .int .i64 c13] from hb0)
  clear hb0
  go_enter Try.func10, Try.ntmps10
  go_wp2_with fail
  refine (new_any c6 c7 c8 K1.out _).mono ?_
  rintro e w1 ⟨rfl, o1, g1⟩
  have O1 := Lib.hid (show obj w1 (w.heap.size + 1) 79 (RS.init c6 c7 c8).cells by simpa using o1)
  have G1 := Lib.hid g1
  have B1 := Lib.hid (HB.out.kept g1 (by simp))
  have m1 := B1.out.cell 1 rfl
  have m5 := B1.out.cell 5 rfl
  clear o1 g1
  go_wp2_with fail
  refine (wnew_any c1 c5 K2.out _).mono ?_
  rintro e w2 ⟨rfl, o2, g2⟩
  have O2 := Lib.hid o2
  have G2 := Lib.hid g2
  have O1' := Lib.hid (O1.out.kept g2 (by simp))
  have B2 := Lib.hid (B1.out.kept g2 (by simp))
  have n12 := B2.out.cell 12 rfl
  have n11 := B2.out.cell 11 rfl
  clear o2 g2 m1 m5
  go_wp2_with fail
  go_ret2
  refine ⟨⟨w2.heap.size + 1, w2.heap.size, w.heap.size + 1, w1.heap.size⟩, rfl, ⟨?_, ?_, ?_, ?_⟩, ?_, ?_⟩
  · have := obj.new (w2.alloc (.cells #[.pointer (some ⟨w.heap.size + 1, 0, none⟩), .pointer (some ⟨w1.heap.size, 0, none⟩), .int .i64 0, .int .i64 c12, .int .i64 (now + c11), .int .i64 c11, .bool false] 62)) 64 [.pointer (some ⟨w2.heap.size, 0, none⟩)]
    simpa using this
  · exact (obj.new _ _ ((PS.init ⟨c0, c1, c2, c3, c4, c5, c6, c7, c8, c9, c10, c11, c12, c13⟩ now).cells ⟨w2.heap.size + 1, w2.heap.size, w.heap.size + 1, w1.heap.size⟩)).alloc _
  · exact (O1'.out.alloc _).alloc _
  · exact (O2.out.alloc _).alloc _
  · have s1 := G1.out.size
    have s2 := G2.out.size
    have s3 := O1.out.lt
    have s4 := O2.out.lt
    simp at s1 s2 s3 s4
    simp [PP.within]
    omega
  · exact only_alloc (only_alloc (only_trans (only_trans (only_alloc (only_refl _ _) _) G1.out) G2.out) _) _

set_option maxRecDepth 100000 in
set_option maxHeartbeats 4000000 in
theorem pnew_any_bad (c : CF) (now : Int) (hc : -9223372036854775808 ≤ c.mtu ∧ c.mtu ≤ 9223372036854775807) (h : ¬ c.fits now) (w : World) :
    Calls Try.prog 10 #[.agg c.cells, .int .i64 now] w fun e w' => e = .returned (.tuple #[.pointer none, .int .i64 1]) ∧ w.grownBy w' none := by
  obtain ⟨c0, c1, c2, c3, c4, c5, c6, c7, c8, c9, c10, c11, c12, c13⟩ := c
  unfold CF.cells
  simp only at hc
  have hb0 := obj.new w 29 [.int .i64 c0, .int .i64 c1, .int .i64 c2, .int .i64 c3, .int .i64 c4, .int .i64 c5, .int .i64 c6, .int .i64 c7, .int .i64 c8, .int .i64 c9, .int .i64 c10, .int .i64 c11, .int .i64 c12, .int .i64 c13]
  have HB := Lib.hid (show obj (w.alloc (.cells #[.int .i64 c0, .int .i64 c1, .int .i64 c2, .int .i64 c3, .int .i64 c4, .int .i64 c5, .int .i64 c6, .int .i64 c7, .int .i64 c8, .int .i64 c9, .int .i64 c10, .int .i64 c11, .int .i64 c12, .int .i64 c13] 29)) w.heap.size 29 [.int .i64 c0, .int .i64 c1, .int .i64 c2, .int .i64 c3, .int .i64 c4, .int .i64 c5, .int .i64 c6, .int .i64 c7, .int .i64 c8, .int .i64 c9, .int .i64 c10, .int .i64 c11, .int .i64 c12, .int .i64 c13] from hb0)
  have G0 := Lib.hid (only_alloc (only_refl w none) (.cells #[.int .i64 c0, .int .i64 c1, .int .i64 c2, .int .i64 c3, .int .i64 c4, .int .i64 c5, .int .i64 c6, .int .i64 c7, .int .i64 c8, .int .i64 c9, .int .i64 c10, .int .i64 c11, .int .i64 c12, .int .i64 c13] 29))
  clear hb0
  by_cases k1 : fits c6 c7 c8
  · have K1 := Lib.hid k1
    by_cases k2 : wfits c1 c5
    · have K2 := Lib.hid k2
      have h3 : ¬ (0 ≤ c12 ∧ c12 ≤ 20 ∧ 1 ≤ c11 ∧ c11 ≤ 1048576 ∧ 0 ≤ now ∧ now ≤ 2305843009213693952) := fun e => h ⟨k1, k2, e⟩
      clear k1 k2 h
      go_enter Try.func10, Try.ntmps10
      go_wp2_with fail
      refine (new_any c6 c7 c8 K1.out _).mono ?_
      rintro e w1 ⟨rfl, o1, g1⟩
      have G1 := Lib.hid (only_trans G0.out g1)
      have B1 := Lib.hid (HB.out.kept g1 (by simp))
      have m1 := B1.out.cell 1 rfl
      have m5 := B1.out.cell 5 rfl
      clear o1 g1
      go_wp2_with fail
      refine (wnew_any c1 c5 K2.out _).mono ?_
      rintro e w2 ⟨rfl, o2, g2⟩
      have G2 := Lib.hid (only_trans G1.out g2)
      have B2 := Lib.hid (B1.out.kept g2 (by simp))
      have n12 := B2.out.cell 12 rfl
      have n11 := B2.out.cell 11 rfl
      clear o2 g2 m1 m5
      have j : c12 < 0 ∨ 20 < c12 ∨ c11 < 1 ∨ 1048576 < c11 ∨ now < 0 ∨ 2305843009213693952 < now := by omega
      clear h3
      by_cases j1 : c12 < 0
      · clear j
        go_wp2_with fail
        go_ret2
        exact ⟨rfl, G2.out⟩
      by_cases j2 : 20 < c12
      · clear j
        go_wp2_with fail
        go_ret2
        exact ⟨rfl, G2.out⟩
      by_cases j3 : c11 < 1
      · clear j
        go_wp2_with fail
        go_ret2
        exact ⟨rfl, G2.out⟩
      by_cases j4 : 1048576 < c11
      · clear j
        go_wp2_with fail
        go_ret2
        exact ⟨rfl, G2.out⟩
      by_cases j5 : now < 0
      · clear j
        go_wp2_with fail
        go_ret2
        exact ⟨rfl, G2.out⟩
      have j6 : 2305843009213693952 < now := by omega
      clear j
      go_wp2_with fail
      go_ret2
      exact ⟨rfl, G2.out⟩
    · clear k1 h
      go_enter Try.func10, Try.ntmps10
      go_wp2_with fail
      refine (new_any c6 c7 c8 K1.out _).mono ?_
      rintro e w1 ⟨rfl, o1, g1⟩
      have G1 := Lib.hid (only_trans G0.out g1)
      have B1 := Lib.hid (HB.out.kept g1 (by simp))
      have m1 := B1.out.cell 1 rfl
      have m5 := B1.out.cell 5 rfl
      clear o1 g1
      go_wp2_with fail
      refine (wnew_any_bad c1 c5 hc k2 _).mono ?_
      rintro e w2 ⟨rfl, rfl⟩
      go_wp2_with fail
      go_ret2
      exact ⟨rfl, G1.out⟩
  · clear h
    go_enter Try.func10, Try.ntmps10
    go_wp2_with fail
    refine (new_any_bad c6 c7 c8 k1 _).mono ?_
    rintro e w1 ⟨rfl, rfl⟩
    go_wp2_with fail
    go_ret2
    exact ⟨rfl, G0.out⟩

set_option maxRecDepth 100000 in
set_option maxHeartbeats 2000000 in
theorem pnew_ref (c : CF) (now : Int) (h : c.fits now) (w : World) :
    Calls Try.prog 22 #[.agg c.cells, .int .i64 now] w (NewRef w (PS.init c now)) := by
  obtain ⟨c0, c1, c2, c3, c4, c5, c6, c7, c8, c9, c10, c11, c12, c13⟩ := c
  unfold CF.cells
  obtain ⟨k1, k2, k3, k4, k5, k6, k7, k8⟩ := h
  simp only at k1 k2 k3 k4 k5 k6 k7 k8
  have K1 := Lib.hid k1
  have K2 := Lib.hid k2
  clear k1 k2
  have hb0 := obj.new w 29 [.int .i64 c0, .int .i64 c1, .int .i64 c2, .int .i64 c3, .int .i64 c4, .int .i64 c5, .int .i64 c6, .int .i64 c7, .int .i64 c8, .int .i64 c9, .int .i64 c10, .int .i64 c11, .int .i64 c12, .int .i64 c13]
  have HB := Lib.hid (show obj (w.alloc (.cells #[.int .i64 c0, .int .i64 c1, .int .i64 c2, .int .i64 c3, .int .i64 c4, .int .i64 c5, .int .i64 c6, .int .i64 c7, .int .i64 c8, .int .i64 c9, .int .i64 c10, .int .i64 c11, .int .i64 c12, .int .i64 c13] 29)) w.heap.size 29 [.int .i64 c0, .int .i64 c1, .int .i64 c2, .int .i64 c3, .int .i64 c4, .int .i64 c5, .int .i64 c6, .int .i64 c7, .int .i64 c8, .int .i64 c9, .int .i64 c10, .int .i64 c11, .int .i64 c12, .int .i64 c13] from hb0)
  clear hb0
  go_enter Try.func22, Try.ntmps22
  go_wp2_with fail
  refine (new_ref c6 c7 c8 K1.out _).mono ?_
  rintro e w1 ⟨rfl, o1, g1⟩
  have O1 := Lib.hid (show obj w1 (w.heap.size + 1) 83 (RS.init c6 c7 c8).cells by simpa using o1)
  have G1 := Lib.hid g1
  have B1 := Lib.hid (HB.out.kept g1 (by simp))
  have m1 := B1.out.cell 1 rfl
  have m5 := B1.out.cell 5 rfl
  clear o1 g1
  go_wp2_with fail
  refine (wnew_ref c1 c5 K2.out _).mono ?_
  rintro e w2 ⟨rfl, o2, g2⟩
  have O2 := Lib.hid o2
  have G2 := Lib.hid g2
  have O1' := Lib.hid (O1.out.kept g2 (by simp))
  have B2 := Lib.hid (B1.out.kept g2 (by simp))
  have n12 := B2.out.cell 12 rfl
  have n11 := B2.out.cell 11 rfl
  clear o2 g2 m1 m5
  go_wp2_with fail
  go_ret2
  refine ⟨⟨w2.heap.size, w2.heap.size, w.heap.size + 1, w1.heap.size⟩, rfl, ⟨obj.new _ _ _, O1'.out.alloc _, O2.out.alloc _⟩, ?_, ?_⟩
  · have s1 := G1.out.size
    have s2 := G2.out.size
    have s3 := O1.out.lt
    have s4 := O2.out.lt
    simp at s1 s2 s3 s4
    simp [PP.within]
    omega
  · exact only_alloc (only_trans (only_trans (only_alloc (only_refl _ _) _) G1.out) G2.out) _

set_option maxRecDepth 100000 in
set_option maxHeartbeats 4000000 in
theorem pnew_ref_bad (c : CF) (now : Int) (hc : -9223372036854775808 ≤ c.mtu ∧ c.mtu ≤ 9223372036854775807) (h : ¬ c.fits now) (w : World) :
    Calls Try.prog 22 #[.agg c.cells, .int .i64 now] w fun e w' => e = .returned (.tuple #[.pointer none, .int .i64 1]) ∧ w.grownBy w' none := by
  obtain ⟨c0, c1, c2, c3, c4, c5, c6, c7, c8, c9, c10, c11, c12, c13⟩ := c
  unfold CF.cells
  simp only at hc
  have hb0 := obj.new w 29 [.int .i64 c0, .int .i64 c1, .int .i64 c2, .int .i64 c3, .int .i64 c4, .int .i64 c5, .int .i64 c6, .int .i64 c7, .int .i64 c8, .int .i64 c9, .int .i64 c10, .int .i64 c11, .int .i64 c12, .int .i64 c13]
  have HB := Lib.hid (show obj (w.alloc (.cells #[.int .i64 c0, .int .i64 c1, .int .i64 c2, .int .i64 c3, .int .i64 c4, .int .i64 c5, .int .i64 c6, .int .i64 c7, .int .i64 c8, .int .i64 c9, .int .i64 c10, .int .i64 c11, .int .i64 c12, .int .i64 c13] 29)) w.heap.size 29 [.int .i64 c0, .int .i64 c1, .int .i64 c2, .int .i64 c3, .int .i64 c4, .int .i64 c5, .int .i64 c6, .int .i64 c7, .int .i64 c8, .int .i64 c9, .int .i64 c10, .int .i64 c11, .int .i64 c12, .int .i64 c13] from hb0)
  have G0 := Lib.hid (only_alloc (only_refl w none) (.cells #[.int .i64 c0, .int .i64 c1, .int .i64 c2, .int .i64 c3, .int .i64 c4, .int .i64 c5, .int .i64 c6, .int .i64 c7, .int .i64 c8, .int .i64 c9, .int .i64 c10, .int .i64 c11, .int .i64 c12, .int .i64 c13] 29))
  clear hb0
  by_cases k1 : fits c6 c7 c8
  · have K1 := Lib.hid k1
    by_cases k2 : wfits c1 c5
    · have K2 := Lib.hid k2
      have h3 : ¬ (0 ≤ c12 ∧ c12 ≤ 20 ∧ 1 ≤ c11 ∧ c11 ≤ 1048576 ∧ 0 ≤ now ∧ now ≤ 2305843009213693952) := fun e => h ⟨k1, k2, e⟩
      clear k1 k2 h
      go_enter Try.func22, Try.ntmps22
      go_wp2_with fail
      refine (new_ref c6 c7 c8 K1.out _).mono ?_
      rintro e w1 ⟨rfl, o1, g1⟩
      have G1 := Lib.hid (only_trans G0.out g1)
      have B1 := Lib.hid (HB.out.kept g1 (by simp))
      have m1 := B1.out.cell 1 rfl
      have m5 := B1.out.cell 5 rfl
      clear o1 g1
      go_wp2_with fail
      refine (wnew_ref c1 c5 K2.out _).mono ?_
      rintro e w2 ⟨rfl, o2, g2⟩
      have G2 := Lib.hid (only_trans G1.out g2)
      have B2 := Lib.hid (B1.out.kept g2 (by simp))
      have n12 := B2.out.cell 12 rfl
      have n11 := B2.out.cell 11 rfl
      clear o2 g2 m1 m5
      have j : c12 < 0 ∨ 20 < c12 ∨ c11 < 1 ∨ 1048576 < c11 ∨ now < 0 ∨ 2305843009213693952 < now := by omega
      clear h3
      by_cases j1 : c12 < 0
      · clear j
        go_wp2_with fail
        go_ret2
        exact ⟨rfl, G2.out⟩
      by_cases j2 : 20 < c12
      · clear j
        go_wp2_with fail
        go_ret2
        exact ⟨rfl, G2.out⟩
      by_cases j3 : c11 < 1
      · clear j
        go_wp2_with fail
        go_ret2
        exact ⟨rfl, G2.out⟩
      by_cases j4 : 1048576 < c11
      · clear j
        go_wp2_with fail
        go_ret2
        exact ⟨rfl, G2.out⟩
      by_cases j5 : now < 0
      · clear j
        go_wp2_with fail
        go_ret2
        exact ⟨rfl, G2.out⟩
      have j6 : 2305843009213693952 < now := by omega
      clear j
      go_wp2_with fail
      go_ret2
      exact ⟨rfl, G2.out⟩
    · clear k1 h
      go_enter Try.func22, Try.ntmps22
      go_wp2_with fail
      refine (new_ref c6 c7 c8 K1.out _).mono ?_
      rintro e w1 ⟨rfl, o1, g1⟩
      have G1 := Lib.hid (only_trans G0.out g1)
      have B1 := Lib.hid (HB.out.kept g1 (by simp))
      have m1 := B1.out.cell 1 rfl
      have m5 := B1.out.cell 5 rfl
      clear o1 g1
      go_wp2_with fail
      refine (wnew_ref_bad c1 c5 hc k2 _).mono ?_
      rintro e w2 ⟨rfl, rfl⟩
      go_wp2_with fail
      go_ret2
      exact ⟨rfl, G1.out⟩
  · clear h
    go_enter Try.func22, Try.ntmps22
    go_wp2_with fail
    refine (new_ref_bad c6 c7 c8 k1 _).mono ?_
    rintro e w1 ⟨rfl, rfl⟩
    go_wp2_with fail
    go_ret2
    exact ⟨rfl, G0.out⟩

def plain (r : Int) : CF := ⟨0, 128, 0, 0, 0, 1000, 3, 1, 60, 0, 0, 10, r % 21, 0⟩
theorem plain_fits (r now : Int) (h : 0 ≤ now ∧ now ≤ 2305843009213693952) : (plain r).fits now := by
  unfold CF.fits plain fits wfits
  simp only
  omega
set_option maxRecDepth 100000 in
set_option maxHeartbeats 400000 in
theorem plain_any (r : Int) (hr : 0 ≤ r ∧ r ≤ 255) (w : World) :
    Calls Try.prog 11 #[.int .u8 r] w fun e w' => e = .returned (.agg (plain r).cells) ∧ w.grownBy w' none := by
  go_enter Try.func11, Try.ntmps11
  go_wp2
  refine bodyPost_ret (v := .agg (plain r).cells) ?_ rfl ⟨rfl, ?_⟩
  · simp [results, Try.results11, go_sem, plain, CF.cells]
  · repeat (first | exact only_refl _ _ | apply only_drew | (refine only_alloc ?_ _) | (refine only_setNew ?_ (by simp) _))
end Go.Proofs.Ytfboihbanehgcaa
