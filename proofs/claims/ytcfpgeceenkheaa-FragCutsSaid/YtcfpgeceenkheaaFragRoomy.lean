/- Roomy, and Kept: a row of its own with marks behind it. Conditions: the bytes lie in memory; at most 2^21. -/
import Derived.Test.YtcfpgeceenkheaaFragCopy
namespace Go.Proofs.Ytcfpgeceenkheaa
open Go.RowKit Go.Deep
set_option linter.unusedVariables false
set_option linter.unusedSimpArgs false

theorem make_u8 (n : Nat) (h : n ≤ 4000000) (w : World) : (Instr.makeSlice 23 (.int .i64 (n : Int)) (.int .i64 (n : Int))).run Try.prog w = .ok (.slice (some ⟨w.heap.size, 0, none⟩) n n) (w.alloc (.cells (madeCells #[.int .u8 0] n) 5)) := by
  obtain ⟨i0, hi0, hz0, hz1, hz2⟩ := info_parts infoB
  have := run_makeSlice (P := Try.prog) w 23 5 i0 (.int .u8 0) Try.underlying23 hi0 hz0 .i64 .i64 (n : Int) (n : Int) (by omega) (Int.le_refl _) (by rw [hz1]; omega) (by rw [hz2]; omega) (by omega)
  simpa [hz1, Value.cells] using this
theorem made_flat (n : Nat) : madeCells #[.int .u8 0] n = (flat cB (List.replicate n 0)).toArray := by
  have e : (madeCells #[.int .u8 0] n).toList = flat cB (List.replicate n 0) := by
    simp [madeCells, flat, cB, Nat.mod_one]
    rw [List.eq_replicate_iff]
    exact ⟨by simp, fun b hb => by simp at hb; exact hb.2.symm⟩
  rw [← e]
/-- The row while its marks are laid. -/
def mks (n k : Nat) : List Int := List.replicate n 0 ++ (List.replicate k 90 ++ List.replicate (16 - k) 0)
theorem mks_len (n k : Nat) (h : k ≤ 16) : (mks n k).length = n + 16 := by simp [mks]; omega
theorem mks_set (n k : Nat) (h : k < 16) : (mks n k).set (n + k) 90 = mks n (k + 1) := by
  unfold mks
  rw [List.set_append_right _ _ (by simp), List.length_replicate, show n + k - n = k by omega, List.set_append_right _ _ (by simp), List.length_replicate, Nat.sub_self, show 16 - k = (16 - (k + 1)) + 1 by omega, List.replicate_succ, List.set_cons_zero, List.replicate_succ' (n := k), List.append_assoc]
  rfl
theorem mks_zero (n : Nat) : mks n 0 = List.replicate (n + 16) 0 := by
  unfold mks
  rw [List.replicate_zero, List.nil_append, Nat.sub_zero, List.replicate_append_replicate]
/-- The bytes with their marks. -/
def marked (B : List Int) : List Int := B ++ List.replicate 16 90
theorem mks_end (B : List Int) : mks B.length 16 = cpy B 0 ++ List.replicate 16 90 := by
  unfold mks cpy
  simp
theorem flatB_get (G : List Int) (i : Nat) (h : i < G.length) : (flat cB G)[i]? = some (.int .u8 (G[i]'h)) := flatB_at G i h
theorem obj.byte {w : World} {g : Nat} {G : List Int} (h : obj w g 5 (flat cB G)) (i : Nat) (hi : i < G.length) : w.cell? ⟨g, i, none⟩ = some (.int .u8 (G[i]'hi)) := h.cell i (flatB_at G i hi)
theorem obj.setByte {w : World} {g : Nat} {G : List Int} (h : obj w g 5 (flat cB G)) (i : Nat) (hi : i < G.length) (z : Int) : obj (w.setCell ⟨g, i, none⟩ (.int .u8 z)) g 5 (flat cB (G.set i z)) := by
  have := h.set i (.int .u8 z)
  have e := flat_set cB_len G i hi 0 (by omega) (.int .u8 z) z rfl
  rw [Nat.mul_one, Nat.add_zero] at e
  rw [e] at this
  exact this
/-- The first bytes of a block. -/
theorem obj.liesB {w : World} {g n c : Nat} {G : List Int} (h : obj w g 5 (flat cB G)) (hn : n ≤ G.length) (hc : n ≤ c) (hc2 : c ≤ 9223372036854775807) (hG : ∀ x, x ∈ G → 0 ≤ x ∧ x < 256) : LiesB w (.slice (some ⟨g, 0, none⟩) n c) (G.take n) := by
  have hl : (G.take n).length = n := by rw [List.length_take]; omega
  refine ⟨⟨by rw [flat_len cB_len], some ⟨g, 0, none⟩, c, by rw [hl], by rw [hl]; exact hc, hc2, fun h0 => ⟨g, 0, rfl, h.lt, fun j u hu => ?_⟩⟩, fun x hx => hG x (List.mem_of_mem_take hx)⟩
  have hj : j < n := by
    have := (List.getElem?_eq_some_iff.1 hu).1
    rw [flatB_len, hl] at this
    exact this
  rw [flatB_at _ j (by rw [hl]; exact hj)] at hu
  cases hu
  rw [Nat.zero_add, h.byte j (by omega)]
  simp
set_option maxRecDepth 100000 in
set_option maxHeartbeats 4000000 in
theorem roomy (v : Value) (B : List Int) (w : World) (hv : LiesB w v B) (hB : B.length ≤ 2097152) :
    Calls Try.prog 12 #[v] w fun e w' => e = .returned (.slice (some ⟨w.heap.size, 0, none⟩) B.length (B.length + 16)) ∧ obj w' w.heap.size 5 (flat cB (marked B)) ∧ turned w w' [] := by
  obtain ⟨a, cap, rfl, hc1, hc2⟩ := hv.1.form
  obtain ⟨n, hn⟩ : ∃ n, B.length = n := ⟨_, rfl⟩
  obtain ⟨N, hN⟩ : ∃ N, n + 16 = N := ⟨_, rfl⟩
  have hmk := fun w => make_u8 N (by omega) w
  have hO := obj.new w 5 (flat cB (mks n 0))
  have e0 : (flat cB (mks n 0)).toArray = madeCells #[.int .u8 0] N := by rw [made_flat, mks_zero, hN]
  unfold obj at hO
  rw [e0] at hO
  have hO' : obj (w.alloc (.cells (madeCells #[.int .u8 0] N) 5)) w.heap.size 5 (flat cB (mks n 0)) := by unfold obj; rw [e0]; exact hO
  have HV := Lib.hid hv
  have HN := Lib.hid hn
  have HNN := Lib.hid hN
  have HO := Lib.hid hO'
  have s1 : IntKind.i64.wrap ((n : Int) + 16) = (N : Int) := by rw [IntWalk.i64_in _ (by omega)]; omega
  have T0 := Lib.hid (turned_alloc (turned_refl w []) (.cells (madeCells #[.int .u8 0] N) 5))
  rw [hn] at hc1 hB ⊢
  rw [hN]
  clear hv hO hO' e0 hn hN
  go_enter Try.func12, Try.ntmps12
  go_wp2_with fail
  go_loopw [4] (fun iv wr => ∃ i k : Nat, k ≤ 16 ∧ i = n + k ∧ iv = .int .i64 (i : Int) ∧ obj wr w.heap.size 5 (flat cB (mks n k)) ∧ turned w wr []) (fun iv _ => N - (intOf iv).toNat)
  case atStart => exact ⟨n, 0, by omega, rfl, rfl, HO.out, T0.out⟩
  case round =>
    obtain ⟨i, k, hk, hi, rfl, ho, tw⟩ := hrel
    have HO1 := Lib.hid ho
    have TW := Lib.hid tw
    have hN2 := HNN.out
    clear ho tw
    by_cases hlt : i < N
    · have hk2 : k < 16 := by omega
      have hml := mks_len n k hk
      have x0 := HO1.out.byte i (by omega)
      have y0 := HO1.out.free i
      have hset := HO1.out.setByte i (by omega) 90
      rw [show (mks n k).set i 90 = mks n (k + 1) by rw [hi]; exact mks_set n k hk2] at hset
      have HS := Lib.hid hset
      have hii : (i : Int) < (N : Int) := by omega
      have hi0 : (0 : Int) ≤ (i : Int) := by omega
      have HI := Lib.hid hi
      have hwi : IntKind.i64.wrap ((i : Int) + 1) = (i : Int) + 1 := IntWalk.i64_in _ (by omega)
      generalize (mks n k)[i] = z0 at x0
      clear hset hi hN2 hml
      go_wp2_with fail
      go_roundw
      case rel => exact ⟨i + 1, k + 1, by omega, by rw [HI.out]; omega, by go_num, HS.out, turned_setNew TW.out (Nat.le_refl _) _⟩
      case measure => simp only [intOf]; omega
    · have hk2 : k = 16 := by omega
      subst hk2
      have hnl : ¬ (i : Int) < (N : Int) := by omega
      have ho1 := HO1.out
      rw [show mks n 16 = cpy B 0 ++ List.replicate 16 90 by rw [← HN.out]; exact mks_end B] at ho1
      have HO2 := Lib.hid ho1
      clear ho1 hi hN2
      go_wp2_with fail
      go_loopw [5] (fun jv wq => ∃ j : Nat, j ≤ n ∧ jv = .int .i64 (j : Int) ∧ obj wq w.heap.size 5 (flat cB (cpy B j ++ List.replicate 16 90)) ∧ turned w wq []) (fun jv _ => n - (intOf jv).toNat)
      case atStart => exact ⟨0, Nat.zero_le _, rfl, HO2.out, TW.out⟩
      case round =>
        obtain ⟨j, hj, rfl, ho, tw⟩ := hrel
        have HO3 := Lib.hid ho
        have TW3 := Lib.hid tw
        have hN2 := HNN.out
        clear ho tw
        by_cases hlt2 : j < n
        · obtain ⟨b, off, rfl, _, hc⟩ := (HV.out.none_ TW3.out).cell j (by rw [HN.out]; exact hlt2)
          have hjB : j < B.length := by rw [HN.out]; exact hlt2
          have hcl := cpy_len B j (by omega)
          obtain ⟨z0, x0⟩ : ∃ z0, wr.cell? ⟨w.heap.size, j, none⟩ = some (.int .u8 z0) := ⟨_, HO3.out.byte j (by rw [List.length_append, hcl]; omega)⟩
          have y0 := HO3.out.free j
          have hset := HO3.out.setByte j (by rw [List.length_append, hcl]; omega) (B[j]'hjB)
          rw [List.set_append_left _ _ (by rw [hcl]; exact hjB), cpy_set B j hjB] at hset
          have HS := Lib.hid hset
          have hii : (j : Int) < (n : Int) := by omega
          have hii2 : (j : Int) < (N : Int) := by omega
          have hi0 : (0 : Int) ≤ (j : Int) := by omega
          generalize B[j]'hjB = z1 at hc HS
          clear hset hcl hjB hN2
          go_wp2_with fail
          go_roundw
          case rel => exact ⟨j + 1, by omega, by go_num, HS.out, turned_setNew TW3.out (Nat.le_refl _) _⟩
          case measure => simp only [intOf]; omega
        · have hjn : j = n := by omega
          subst hjn
          have hnl2 : ¬ (j : Int) < (j : Int) := by omega
          have ho4 := HO3.out
          rw [show cpy B j = B by rw [← HN.out]; exact cpy_all B] at ho4
          have HO4 := Lib.hid ho4
          have z1 : (0 : Int) ≤ (j : Int) := by omega
          have z2 : (j : Int) ≤ (N : Int) := by omega
          have z3 : j ≤ N := by omega
          clear ho4 hN2
          go_wp2_with fail
          go_ret
          exact ⟨rfl, HO4.out, TW3.out⟩
end Go.Proofs.Ytcfpgeceenkheaa
