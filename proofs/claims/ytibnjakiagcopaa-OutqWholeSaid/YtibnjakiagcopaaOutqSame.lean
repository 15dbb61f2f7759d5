/- Bytes told as text; pieces compared. Conditions: the bytes lie in memory. -/
import Derived.Test.YtibnjakiagcopaaOutqExpire
import Derived.Laws.BytesArg
import Derived.Lib.SlBytesConst
namespace Go.Proofs.Ytibnjakiagcopaa
open Go.RowKit Go.Deep
set_option linter.unusedVariables false
set_option linter.unusedSimpArgs false

/-- Bytes in memory, as a text. -/
theorem conv_lies {w : World} {v : Value} {B : List Int} (h : LiesB w v B) : (convert 29 9 v).run Try.prog w = .ok (.string (strOfNums B)) w := by
  obtain ⟨a, cap, rfl, h1, h2⟩ := h.1.form
  rcases Nat.eq_zero_or_pos B.length with h0 | h0
  · have hB : B = [] := List.eq_nil_of_length_eq_zero h0
    subst hB
    cases a with
    | none =>
      rw [run_convert_bytes_nil w 29 5 Try.underlying29 Try.underlying5 _ _ 9 Try.underlying9]
      rfl
    | some ad =>
      rw [run_convert_bytes_string w 29 9 5 _ _ _ Try.underlying29 Try.underlying5 Try.underlying9, run_bytesToString w ad _ cap [] (by simp [loadCells, loadCellsFrom])]
      rfl
  · obtain ⟨b, off, rfl, hb, _⟩ := h.cell 0 h0
    refine run_convert_bytes_arg w 29 5 Try.underlying29 Try.underlying5 b off B.length cap B rfl (fun i hi => ?_) 9 Try.underlying9
    obtain ⟨b', off', e, _, hc⟩ := h.cell i hi
    cases e
    rw [hc]
    simp [List.getD, hi]
theorem strOf_inj {A B : List Int} (hA : bytes A) (hB : bytes B) (h : strOfNums A = strOfNums B) : A = B := by
  have e := congrArg (fun s : ByteArray => s.data.toList) h
  simp only [strOfNums_data] at e
  have hl : A.length = B.length := by simpa using congrArg List.length e
  refine List.ext_getElem hl fun i h1 h2 => ?_
  have e2 := congrArg (fun l => l[i]?) e
  simp only [List.getElem?_map, List.getElem?_eq_getElem h1, List.getElem?_eq_getElem h2, Option.map_some, Option.some.injEq] at e2
  have a := hA _ (List.getElem_mem h1)
  have b := hB _ (List.getElem_mem h2)
  have e3 := congrArg UInt8.toNat e2
  simp only [UInt8.toNat_ofNat'] at e3
  omega
theorem strOf_eq {A B : List Int} (hA : bytes A) (hB : bytes B) : decide (strOfNums A = strOfNums B) = decide (A = B) := by
  rw [Bool.eq_iff_iff, decide_eq_true_eq, decide_eq_true_eq]
  exact ⟨strOf_inj hA hB, fun h => by rw [h]⟩
theorem str_beq (a b : ByteArray) : (a.toList == b.toList) = decide (a = b) := by
  rw [ByteArray.toList_eq, ByteArray.toList_eq, Bool.eq_iff_iff, beq_iff_eq, decide_eq_true_eq]
  constructor
  · intro h
    exact ByteArray.ext (Array.toList_inj.1 h)
  · intro h
    rw [h]
/-- A piece. -/
structure DD where
  t : Int
  s : Int
  n : Int
  u : Bool
  f : Bool
  l : Bool
  B : List Int
def DD.val (d : DD) (v : Value) : Value := .agg #[.int .u32 d.t, .int .u16 d.s, .int .u16 d.n, .bool d.u, .bool d.f, .bool d.l, v]
def DD.zero : DD := ⟨0, 0, 0, false, false, false, []⟩
instance : DecidableEq DD := fun a b => by
  cases a; cases b
  simp only [DD.mk.injEq]
  exact inferInstance
set_option maxRecDepth 100000 in
set_option maxHeartbeats 4000000 in
theorem osame (a b : DD) (va vb : Value) (w : World) (ha : LiesB w va a.B) (hb : LiesB w vb b.B) :
    Calls Try.prog 13 #[a.val va, b.val vb] w fun e w' => e = .returned (.bool (decide (a = b))) ∧ turned w w' [] := by
  obtain ⟨aa, ac, rfl, ha1, ha2⟩ := ha.1.form
  obtain ⟨ba, bc, rfl, hb1, hb2⟩ := hb.1.form
  have hA : bytes a.B := ha.2
  have hB : bytes b.B := hb.2
  have HA := fun w' (t : turned w w' []) => conv_lies (ha.none_ t)
  have HB := fun w' (t : turned w w' []) => conv_lies (hb.none_ t)
  have HA := Lib.hid HA
  have HB := Lib.hid HB
  have hdec : decide (a = b) = (a.t == b.t && a.s == b.s && a.n == b.n && a.u == b.u && a.f == b.f && a.l == b.l && decide (strOfNums a.B = strOfNums b.B)) := by
    rw [strOf_eq hA hB]
    cases a; cases b
    rw [Bool.eq_iff_iff]
    simp only [DD.mk.injEq, decide_eq_true_eq, Bool.and_eq_true, beq_iff_eq]
    constructor
    · rintro ⟨h1, h2, h3, h4, h5, h6, h7⟩; exact ⟨⟨⟨⟨⟨⟨h1, h2⟩, h3⟩, h4⟩, h5⟩, h6⟩, h7⟩
    · rintro ⟨⟨⟨⟨⟨⟨h1, h2⟩, h3⟩, h4⟩, h5⟩, h6⟩, h7⟩; exact ⟨h1, h2, h3, h4, h5, h6, h7⟩
  rw [hdec]
  clear ha hb hA hB hdec
  obtain ⟨at_, a_s, an, au, af, al, aB⟩ := a
  obtain ⟨bt, bs, bn, bu, bf, bl, bB⟩ := b
  simp only [DD.val] at *
  have ta := turned_alloc (turned_alloc (turned_refl w []) (.cells #[.int .u32 at_, .int .u16 a_s, .int .u16 an, .bool au, .bool af, .bool al, .slice aa aB.length ac] 34)) (.cells #[.int .u32 bt, .int .u16 bs, .int .u16 bn, .bool bu, .bool bf, .bool bl, .slice ba bB.length bc] 34)
  have s1 := HA.out _ ta
  have s2 := HB.out _ ta
  have TA := Lib.hid ta
  clear ta
  obtain ⟨sa, hsa⟩ : ∃ sa, strOfNums aB = sa := ⟨_, rfl⟩
  obtain ⟨sb, hsb⟩ : ∃ sb, strOfNums bB = sb := ⟨_, rfl⟩
  rw [hsa] at s1 ⊢
  rw [hsb] at s2 ⊢
  clear hsa hsb HA HB
  by_cases h1 : at_ = bt
  case neg =>
    have d : (at_ == bt) = false := beq_eq_false_iff_ne.2 h1
    rw [d]
    go_enter Try.func13, Try.ntmps13
    go_wp2_with fail
    go_ret
    exact ⟨rfl, TA.out⟩
  subst h1
  by_cases h2 : a_s = bs
  case neg =>
    have d : (a_s == bs) = false := beq_eq_false_iff_ne.2 h2
    rw [d]
    go_enter Try.func13, Try.ntmps13
    go_wp2_with fail
    go_ret
    exact ⟨by simp, TA.out⟩
  subst h2
  by_cases h3 : an = bn
  case neg =>
    have d : (an == bn) = false := beq_eq_false_iff_ne.2 h3
    rw [d]
    go_enter Try.func13, Try.ntmps13
    go_wp2_with fail
    go_ret
    exact ⟨by simp, TA.out⟩
  subst h3
  by_cases h4 : au = bu
  case neg =>
    have d : (au == bu) = false := beq_eq_false_iff_ne.2 h4
    rw [d]
    go_enter Try.func13, Try.ntmps13
    go_wp2_with fail
    go_ret
    exact ⟨by simp, TA.out⟩
  subst h4
  by_cases h5 : af = bf
  case neg =>
    have d : (af == bf) = false := beq_eq_false_iff_ne.2 h5
    rw [d]
    go_enter Try.func13, Try.ntmps13
    go_wp2_with fail
    go_ret
    exact ⟨by simp, TA.out⟩
  subst h5
  by_cases h6 : al = bl
  case neg =>
    have d : (al == bl) = false := beq_eq_false_iff_ne.2 h6
    rw [d]
    go_enter Try.func13, Try.ntmps13
    go_wp2_with fail
    go_ret
    exact ⟨by simp, TA.out⟩
  subst h6
  go_enter Try.func13, Try.ntmps13
  go_wp2_with fail
  go_ret
  exact ⟨by simp [str_beq], TA.out⟩
set_option maxRecDepth 100000 in
set_option maxHeartbeats 4000000 in
theorem oexpire_nil (now : Int) (w : World) :
    Calls Try.prog 12 #[.pointer none, .int .i64 now] w fun e w' => e = .returned (.tuple #[noData, .int .i64 0, .bool false]) ∧ turned w w' [] := by
  go_enter Try.func12, Try.ntmps12
  go_wp2_with fail
  refine bodyPost_ret (results_cells3 rfl _ _ (w.heap.size + 1) (w.heap.size + 1 + 1) (w.heap.size + 1 + 1 + 1) 34 #[.int .u32 0, .int .u16 0, .int .u16 0, .bool false, .bool false, .bool false, .slice none 0 0] (0, 0) _ rfl rfl rfl ?_ Try.underlying34 rfl (by kernel_rfl) (.int .i64 0) (.bool false) ?_ ?_) rfl ⟨rfl, turned_alloc (turned_alloc (turned_alloc (turned_alloc (turned_refl w []) _) _) _) _⟩
  · have o := (((obj.new (w.alloc (.cells #[.int .i64 now] 2)) 34 [.int .u32 0, .int .u16 0, .int .u16 0, .bool false, .bool false, .bool false, .slice none 0 0]).alloc (.cells #[.int .i64 0] 3)).alloc (.cells #[.bool false] 4))
    rw [World.size_alloc] at o
    exact o
  · go_simp
  · go_simp
set_option maxHeartbeats 4000000 in
theorem oput_nil (s : Int) (o : Bool) (mv : Value) (un : Int) (w : World) :
    Calls Try.prog 10 #[.pointer none, .agg #[.int .u16 s, .bool o, mv], .int .i64 un] w fun e w' => e = .returned (.tuple #[.int .i64 0, .int .i64 2]) ∧ turned w w' [] := by
  go_enter Try.func10, Try.ntmps10
  go_wp2_with fail
  go_ret2
  exact ⟨rfl, turned_alloc (turned_refl _ _) _⟩
end Go.Proofs.Ytibnjakiagcopaa
