/- The walk of ForwardCovers. No condition. -/
import Derived.Test.YtdmoknijpapedaaFwdTop
import Derived.BigGuardPart
namespace Go.Proofs.Ytdmoknijpapedaa
open Go.ChangeShapes Go.WideShapes Go.RowKit Go.Deep
set_option linter.unusedVariables false
set_option linter.unusedSimpArgs false

/-- The row in memory, made so far. -/
def NLp (W : World) (cum first : Int) (X : List PD) (a : Option Addr) (cap : Nat) (i : Value) (wr : World) : Prop :=
  ∃ j : Nat, j ≤ X.length ∧ i = .int .i64 (j : Int) ∧ wr.ownsRow W.heap.size 34 7 (.slice a X.length cap) X.length (flat cPD (mapTo (seqN cum first) j X)) ∧ turned W wr []
theorem nlp_step {w : World} {base g cap j : Nat} {cum first : Int} {X : List PD} (hj : j < X.length) (h : w.ownsRow base 34 7 (.slice (some ⟨g, 0, none⟩) X.length cap) X.length (flat cPD (mapTo (seqN cum first) j X))) :
    ((w.setCell ⟨g, j * 7, none⟩ (.int .u32 ((cum + 1 + (j : Int)) % 4294967296))).setCell ⟨g, j * 7 + 2, none⟩ (.int .u16 ((first + (X[j]'hj).n % 16384) % 65536))).ownsRow base 34 7 (.slice (some ⟨g, 0, none⟩) X.length cap) X.length (flat cPD (mapTo (seqN cum first) (j + 1) X)) := by
  have hl : j < (mapTo (seqN cum first) j X).length := by rw [mapTo_len]; exact hj
  have h1 := (h.stored (j * 7 + 0) (.int .u32 ((cum + 1 + (j : Int)) % 4294967296))).1
  rw [flat_set cPD_len _ j hl 0 (by omega) _ ({ X[j]'hj with t := (cum + 1 + (j : Int)) % 4294967296 }) (by rw [mapTo_at _ _ _ _ hj, if_neg (Nat.lt_irrefl _)]; rfl)] at h1
  have h2 := (h1.stored (j * 7 + 2) (.int .u16 ((first + (X[j]'hj).n % 16384) % 65536))).1
  rw [flat_set cPD_len _ j (by rw [List.length_set]; exact hl) 2 (by omega) _ (seqN cum first j (X[j]'hj)) (by rw [List.getElem_set_self]; rfl), List.set_set, mapTo_set] at h2
  exact h2

/-- Is a told number a piece's? -/
def hasP (e : Int × Int) (x : PD) : Bool := !x.u && (x.s == e.1) && (x.n == e.2)
/-- Is a piece told? -/
def toldP (f : Int) (x : PD) (e : Int × Int) : Bool := (e.1 == x.s) && decide (dst f x.n ≤ dst f e.2)
theorem any_take {α : Type} (p : α → Bool) (X : List α) (j : Nat) (h : j < X.length) : (X.take (j + 1)).any p = ((X.take j).any p || p (X[j]'h)) := by
  rw [List.take_succ_eq_append_getElem h, List.any_append]; simp
theorem covers_from {X : List PD} {e : Int × Int} (h : e ∈ told X) : X.any (hasP e) = true := by
  obtain ⟨x, hx, h1, h2, h3⟩ := told_from X e h
  exact List.any_eq_true.2 ⟨x, hx, by simp [hasP, h1, h2, h3]⟩
theorem covers_told {f : Int} {X : List PD} (hn : ∀ x, x ∈ X → dst f x.n < 16384) {x : PD} (h : x ∈ X) : (x.u || (told X).any (toldP f x)) = true := by
  cases hu : x.u with
  | true => rfl
  | false =>
    have h1 := top_of_mem h hu (f := f)
    rw [← topS_told f x.s X hn] at h1
    have h0 := dst_nonneg f x.n
    obtain ⟨e, he, e1, e2⟩ := topS_mem (f := f) (s := x.s) (M := told X) (by omega)
    rw [Bool.false_or]
    exact List.any_eq_true.2 ⟨e, he, by simp [toldP, e1]; omega⟩

/-- The row, and what is told of it, in memory. -/
def CB (rv : Value) (Z : List PD) (bF : Nat) (lc : Int) (sv : Value) (S : List (Int × Int)) (w : World) : Prop :=
  LiesD w rv Z ∧ obj w bF 27 [.int .u32 lc, sv] ∧ Lies w 2 sv S.length (flat cSk S)
theorem CB.none_ {rv : Value} {Z : List PD} {bF : Nat} {lc : Int} {sv : Value} {S : List (Int × Int)} {w w' : World} (h : CB rv Z bF lc sv S w) (t : turned w w' []) : CB rv Z bF lc sv S w' :=
  ⟨h.1.none_ t, h.2.1.past t (by simp), h.2.2.none_ t⟩
theorem CB.drew' {rv : Value} {Z : List PD} {bF : Nat} {lc : Int} {sv : Value} {S : List (Int × Int)} {w w' : World} (h : CB rv Z bF lc sv S w) (t : turned w.drew w' []) : CB rv Z bF lc sv S w' := h.none_ (turned_trans (turned_drew w []) t)
theorem CB.t0 {g n cap : Nat} {Z : List PD} {bF : Nat} {lc : Int} {sv : Value} {S : List (Int × Int)} {w : World} (h : CB (.slice (some ⟨g, 0, none⟩) n cap) Z bF lc sv S w) (k : Nat) (hk : k < Z.length) {x : PD} (hx : Z[k]'hk = x) : w.cell? ⟨g, k * 7, none⟩ = some (.int .u32 x.t) := by
  obtain ⟨b1, off1, e1, hb1, c0, _⟩ := h.1.cells k hk
  simp only [Option.some.injEq, Addr.mk.injEq, and_true] at e1
  obtain ⟨rfl, rfl⟩ := e1
  simp only [Nat.zero_add] at c0
  rw [← hx]; exact c0
theorem lies_sk {w : World} {a : Option Addr} {n cap : Nat} {S : List (Int × Int)} (h : Lies w 2 (.slice a n cap) n (flat cSk S)) (hn : n = S.length) (j : Nat) (hj : j < S.length) : ∃ b off, a = some ⟨b, off, none⟩ ∧
    w.cell? ⟨b, off + j * 2, none⟩ = some (.int .u16 (S[j]'hj).1) ∧ w.cell? ⟨b, off + j * 2 + 1, none⟩ = some (.int .u16 (S[j]'hj).2) := by
  obtain ⟨_, a', cap', e, _, _, hc⟩ := h
  cases e
  obtain ⟨b, off, rfl, hb, hcell⟩ := hc (by omega)
  have g : ∀ i, i < 2 → w.cell? ⟨b, off + j * 2 + i, none⟩ = (cSk (S[j]'hj))[i]? := fun i hi => by
    have e := flat_at cSk_len S j hj i hi
    have hlt : i < (cSk (S[j]'hj)).length := by rw [cSk_len]; exact hi
    rw [List.getElem?_eq_getElem hlt] at e ⊢
    rw [Nat.add_assoc]
    exact hcell _ _ e
  exact ⟨b, off, rfl, g 0 (by omega), g 1 (by omega)⟩
theorem wrap16 (x f : Int) : IntKind.u16.wrap (x - f) = dst f x := IntKind.wrap_u16 _
theorem over_in {cum n k : Int} (h0 : 0 ≤ cum) (h1 : 0 ≤ k) (h2 : k < n) (h3 : n ≤ 200) : ovr ((cum + 1 + k) % 4294967296) ((cum + n) % 4294967296) = true := by
  unfold ovr
  by_cases e : (cum + 1 + k) % 4294967296 = (cum + n) % 4294967296
  · simp [e]
  · rw [lss_mk (by omega) (by omega)]; simp
theorem over_out {cum n k : Int} (h0 : 0 ≤ cum) (h1 : 0 ≤ k) (h2 : k < n) (h3 : n ≤ 200) : ovr (((cum + 1 + k) % 4294967296 + n) % 4294967296) ((cum + n) % 4294967296) = false := by
  unfold ovr
  rw [lss_no (Or.inr (by omega))]
  simp; omega

set_option maxRecDepth 100000 in
set_option maxHeartbeats 16000000 in
theorem covers_good (W : World) (cum first : Int) (v : Value) (X : List PD) (hc : 0 ≤ cum ∧ cum < 4294967296) (hf : 0 ≤ first ∧ first < 65536) (h : LiesD W v X) (hX : X.length ≤ 200) (hpos : 0 < X.length) :
    Calls Try.prog 5 #[.int .u32 cum, .int .u16 first, v] W fun e w' => e = .returned (.bool true) ∧ Below W.heap.size W w' := by
  obtain ⟨hc0, hcm⟩ := hc
  obtain ⟨hf0, hfm⟩ := hf
  obtain ⟨a, cap, rfl, hc1, hc2⟩ := h.1.form
  have H := Lib.hid h
  obtain ⟨i0, hi0, hz0, hz1, hz2⟩ := info_parts infoD
  have hb0 : ((X.length : Int) == 0) = false := beq_eq_false_iff_ne.2 (by omega)
  clear h
  go_enter Try.func5, Try.ntmps5
  go_wp2_with (first | (at_builtin; refine wpList_append_lies' _ rfl _ _ 23 rfl W.heap.size 34 i0 _ 7 40 Try.underlying23 hi0 hz0 hz1 hz2 rfl (by decide) _ 0 [] rfl (World.ownsRow_lit W #[] 0 (Nat.le_refl _) (by decide) rfl) _ X.length (flat cPD X) rfl (H.out.1.none_ (turned_alloc (turned_refl W []) _)) (flatPD_one X) (by unfold maxLen; omega) (by omega) (by simp) ?_) | go_in)
  intro v1 w1 ho hg hl
  have t1 : turned W w1 [] := turned_new (turned_alloc (turned_refl W []) _) hg (fun k e => by simp [Value.ownBlock] at e; omega)
  obtain ⟨a1, cap1, rfl, hd1, hd2, hsa⟩ := row_form ho
  obtain ⟨g, rfl⟩ := hsa (by omega)
  have HO := Lib.hid ho
  have T1 := Lib.hid t1
  have hd2' : cap1 ≤ 9223372036854775807 := hd2
  clear ho hg hl t1 hsa hd2 hb0
  go_wp2
  go_loopw [8] (fun i wr => NLp W cum first X (some ⟨g, 0, none⟩) cap1 i wr) (fun i _ => X.length - (intOf i).toNat)
  case atStart => exact ⟨0, Nat.zero_le _, rfl, by rw [mapTo_zero]; exact HO.out, T1.out⟩
  case round =>
    clear HO T1
    obtain ⟨j, hj, rfl, ho, ht⟩ := hrel
    have HO := Lib.hid ho
    have HT := Lib.hid ht
    clear ho ht
    by_cases hlt : j < X.length
    · have hl : j < (mapTo (seqN cum first) j X).length := by rw [mapTo_len]; exact hlt
      have e0' := HO.out.cellAt (j * 7 + 0) (by omega)
      rw [flat_at cPD_len _ j hl 0 (by omega)] at e0'
      have e0 : wr.cell? ⟨g, j * 7, none⟩ = some (.int .u32 ((mapTo (seqN cum first) j X)[j]'hl).t) := e0'
      have e2' := HO.out.cellAt (j * 7 + 2) (by omega)
      rw [flat_at cPD_len _ j hl 2 (by omega), mapTo_at _ _ _ _ hlt, if_neg (Nat.lt_irrefl _)] at e2'
      have e2 : wr.cell? ⟨g, j * 7 + 2, none⟩ = some (.int .u16 (X[j]'hlt).n) := e2'
      have ef := HO.out.frozenAt (j * 7)
      have ef2 := HO.out.frozenAt (j * 7 + 2)
      have hok := H.out.2 _ (List.getElem_mem hlt)
      have hn0 := hok.n0
      have hn1 := hok.n1
      have hstep := nlp_step hlt HO.out
      obtain ⟨x, hx⟩ : ∃ x, X[j]'hlt = x := ⟨_, rfl⟩
      rw [hx] at e2 hn0 hn1 hstep
      have HS := Lib.hid hstep
      have hw1 : IntKind.u16.wrap (first + x.n % 16384) = (first + x.n % 16384) % 65536 := IntKind.wrap_u16 _
      clear e0' e2' hok hx hstep
      go_wp2
      go_roundw
      case rel => exact ⟨j + 1, by omega, by go_num, HS.out, turned_setNew (turned_setNew HT.out (HO.out.lt g rfl).1 _) (HO.out.lt g rfl).1 _⟩
      case measure => simp only [intOf]; omega
    · have hjn : j = X.length := by omega
      subst hjn
      have LZ : LiesD wr (.slice (some ⟨g, 0, none⟩) X.length cap1) (rowN cum first X) := lies_row HO.out (rowN_len _ _ _).symm (rowN_ok H.out.2)
      have M0 := make_row cum _ _ wr ⟨hc0, hcm⟩ LZ (by rw [rowN_len]; omega) (rowN_row hpos)
      have hlen := rowN_len cum first X
      have htt := fun i hi => rowN_t (cum := cum) (first := first) (X := X) i hi
      have hnear := rowN_near (cum := cum) (first := first) (X := X)
      have hlast := rowN_last (cum := cum) (first := first) hpos
      have hokZ := rowN_ok (cum := cum) (first := first) H.out.2
      generalize rowN cum first X = Z at LZ M0 hlen htt hnear hlast hokZ
      have HM0 := Lib.hid M0
      have HLZ := Lib.hid LZ
      have HLEN := Lib.hid hlen
      have HTT := Lib.hid htt
      have HNEAR := Lib.hid hnear
      have HOKZ := Lib.hid hokZ
      clear M0 LZ hlen htt hnear hokZ HO
      go_wp2_with fail
      refine HM0.out.mono ?_
      rintro e w2 ⟨sv, rfl, hos, t2⟩
      rw [hlast]
      obtain ⟨sa, sc, rfl, hs1, hs2, _⟩ := row_form hos
      have hs2' : sc ≤ 9223372036854775807 := hs2
      have hsl := told_len Z
      rw [HLEN.out] at hsl
      have HFROM := Lib.hid (fun e (h : e ∈ told Z) => covers_from h)
      have HTOLD := Lib.hid (fun x (h : x ∈ Z) => covers_told HNEAR.out h)
      have HKEYS := Lib.hid (told_keys Z)
      have tb := turned_alloc (turned_refl w2 []) (.cells #[.int .u32 ((cum + (X.length : Int)) % 4294967296), .slice sa (told Z).length sc] 27)
      have C0 : CB (.slice (some ⟨g, 0, none⟩) X.length cap1) Z w2.heap.size ((cum + (X.length : Int)) % 4294967296) (.slice sa (told Z).length sc) (told Z) (w2.alloc (.cells #[.int .u32 ((cum + (X.length : Int)) % 4294967296), .slice sa (told Z).length sc] 27)) :=
        ⟨(HLZ.out.none_ t2).none_ tb, obj.new w2 _ _, (Lies.row hos).none_ tb⟩
      have T3 := Lib.hid (turned_trans HT.out (turned_trans t2 tb))
      have HC0 := Lib.hid C0
      clear hos t2 tb C0 hs2 hlast
      generalize told Z = S at HC0 hs1 hsl HFROM HTOLD HKEYS T3 ⊢
      go_wp2_with fail
      generalize (w2.alloc (.cells #[.int .u32 ((cum + (X.length : Int)) % 4294967296), .slice sa S.length sc] 27)) = w3 at HC0 T3 ⊢
      generalize w2.heap.size = bF at HC0 ⊢
      go_loopw [11] (fun i wr => ∃ j : Nat, j ≤ S.length ∧ i = .int .i64 (j : Int) ∧ turned w3 wr []) (fun i _ => S.length - (intOf i).toNat)
      case atStart => exact ⟨0, Nat.zero_le _, rfl, turned_refl _ _⟩
      case round =>
        obtain ⟨i, hi, rfl, hti⟩ := hrel
        have HTI := Lib.hid hti
        clear hti
        have p1 := (HC0.out.none_ HTI.out).2.1.cell 1 rfl
        by_cases hilt : i < S.length
        · obtain ⟨e, he⟩ : ∃ e, S[i]'hilt = e := ⟨_, rfl⟩
          have hem : e ∈ S := by rw [← he]; exact List.getElem_mem hilt
          have HE := Lib.hid he
          have HEM := Lib.hid hem
          clear he hem
          go_wp2
          obtain ⟨wo, rfl⟩ : ∃ wo : World, wo = wr := ⟨_, rfl⟩
          go_loopw [12, 13] (fun th k wr => ∃ (kk : Nat) (b : Bool), kk ≤ X.length ∧ b = (Z.take kk).any (hasP e) ∧ th = .bool b ∧ k = .int .i64 (kk : Int) ∧ turned w3 wr []) (fun _ k _ => X.length - (intOf k).toNat)
          case atStart => exact ⟨0, false, Nat.zero_le _, by simp, rfl, rfl, HTI.out⟩
          case round =>
            clear HTI p1
            obtain ⟨kk, b, hkk, hb, rfl, rfl, htk⟩ := hrel
            have HTK := Lib.hid htk
            have HBB := Lib.hid hb
            clear htk hb
            have hcb := HC0.out.none_ HTK.out
            have p1 := hcb.2.1.cell 1 rfl
            by_cases hklt : kk < X.length
            · have hkZ : kk < Z.length := by rw [HLEN.out]; exact hklt
              obtain ⟨b1, off1, e1, hb1, c0, c1, c2, c3, c4, c5, c6⟩ := hcb.1.cells kk hkZ
              simp only [Option.some.injEq, Addr.mk.injEq, and_true] at e1
              obtain ⟨rfl, rfl⟩ := e1
              simp only [Nat.zero_add] at c0 c1 c2 c3
              obtain ⟨bs, offs, rfl, d0, d1⟩ := lies_sk hcb.2.2 rfl i hilt
              rw [HE.out] at d0 d1
              have hstep := any_take (hasP e) Z kk hkZ
              obtain ⟨x, hx⟩ : ∃ x, Z[kk]'hkZ = x := ⟨_, rfl⟩
              rw [hx] at c0 c1 c2 c3 hstep
              have HST := Lib.hid hstep
              clear c0 c4 c5 c6 hx hstep hcb
              cases b with
              | true =>
                go_wp2
                go_quiet (fail)
                go_wp2
                go_roundw
                case rel => exact ⟨kk + 1, true, by omega, by rw [HST.out, ← HBB.out]; rfl, rfl, by go_num, turned_drewN' _ HTK.out⟩
                case measure => simp only [intOf]; omega
              | false =>
                cases hu : x.u with
                | true =>
                  rw [hu] at c3
                  have HU := Lib.hid hu
                  clear hu
                  go_wp2
                  go_quiet (fail)
                  go_wp2
                  go_roundw
                  case rel => exact ⟨kk + 1, false, by omega, by rw [HST.out, ← HBB.out, hasP, HU.out]; rfl, rfl, by go_num, turned_drewN' _ HTK.out⟩
                  case measure => simp only [intOf]; omega
                | false =>
                  rw [hu] at c3
                  have HU := Lib.hid hu
                  clear hu
                  cases hs : (x.s == e.1) with
                  | false =>
                    have HS := Lib.hid hs
                    go_wp2
                    go_quiet (fail)
                    go_wp2
                    go_roundw
                    case rel => exact ⟨kk + 1, false, by omega, by rw [HST.out, ← HBB.out, hasP, HU.out, HS.out]; rfl, rfl, by go_num, turned_drewN' _ HTK.out⟩
                    case measure => simp only [intOf]; omega
                  | true =>
                    have HS := Lib.hid hs
                    cases hn : (x.n == e.2) with
                    | false =>
                      have HN := Lib.hid hn
                      go_wp2
                      go_quiet (fail)
                      go_wp2
                      go_roundw
                      case rel => exact ⟨kk + 1, false, by omega, by rw [HST.out, ← HBB.out, hasP, HU.out, HS.out, HN.out]; rfl, rfl, by go_num, turned_drewN' _ HTK.out⟩
                      case measure => simp only [intOf]; omega
                    | true =>
                      have HN := Lib.hid hn
                      go_wp2
                      go_quiet (fail)
                      go_wp2
                      go_roundw
                      case rel => exact ⟨kk + 1, true, by omega, by rw [HST.out, ← HBB.out, hasP, HU.out, HS.out, HN.out]; rfl, rfl, by go_num, turned_drewN' _ HTK.out⟩
                      case measure => simp only [intOf]; omega
            · have hkn : kk = Z.length := by rw [HLEN.out]; omega
              obtain rfl : b = true := by rw [HBB.out, hkn, List.take_length]; exact HFROM.out e HEM.out
              clear hcb
              go_wp2
              obtain ⟨wp, rfl⟩ : ∃ wp : World, wp = wr := ⟨_, rfl⟩
              go_loopw [12, 14] (fun th k wr => ∃ kk : Nat, kk ≤ i ∧ th = .bool true ∧ k = .int .i64 (kk : Int) ∧ turned w3 wr []) (fun _ k _ => i - (intOf k).toNat)
              case atStart => exact ⟨0, Nat.zero_le _, rfl, rfl, HTK.out⟩
              case round =>
                clear HTK p1
                obtain ⟨kk, hkk2, rfl, rfl, htk⟩ := hrel
                have HTK := Lib.hid htk
                clear htk
                have hcb := HC0.out.none_ HTK.out
                have p1 := hcb.2.1.cell 1 rfl
                by_cases hki : kk < i
                · obtain ⟨bs, offs, e3, d0, d1⟩ := lies_sk hcb.2.2 rfl i hilt
                  obtain ⟨bs', offs', e4, d2, d3⟩ := lies_sk hcb.2.2 rfl kk (by omega)
                  subst e3
                  simp only [Option.some.injEq, Addr.mk.injEq, and_true] at e4
                  obtain ⟨rfl, rfl⟩ := e4
                  rw [HE.out] at d0 d1
                  have hne := List.pairwise_iff_getElem.1 HKEYS.out kk i (by omega) hilt hki
                  rw [HE.out] at hne
                  obtain ⟨y, hy⟩ : ∃ y, S[kk]'(by omega) = y := ⟨_, rfl⟩
                  rw [hy] at d2 d3 hne
                  have hne' : (y.1 != e.1) = true := by simp [hne]
                  clear hne hy d1 d3 hcb
                  go_wp2
                  go_quiet (fail)
                  go_wp2
                  go_roundw
                  case rel => exact ⟨kk + 1, by omega, rfl, by go_num, turned_drewN' _ HTK.out⟩
                  case measure => simp only [intOf]; omega
                · clear hcb
                  go_wp2
                  go_roundw
                  case rel => exact ⟨i + 1, by omega, by go_num, HTK.out⟩
                  case measure => simp only [intOf]; omega
        · go_wp2
          obtain ⟨wo, rfl⟩ : ∃ wo : World, wo = wr := ⟨_, rfl⟩
          go_loopw [15] (fun i wr => ∃ j : Nat, j ≤ X.length ∧ i = .int .i64 (j : Int) ∧ turned w3 wr []) (fun i _ => X.length - (intOf i).toNat)
          case atStart => exact ⟨0, Nat.zero_le _, rfl, HTI.out⟩
          case round =>
            clear HTI p1
            obtain ⟨k, hk, rfl, htk⟩ := hrel
            have HTK := Lib.hid htk
            clear htk
            by_cases hklt : k < X.length
            · have hcb := HC0.out.none_ HTK.out
              have p0 := hcb.2.1.cell 0 rfl
              have p1 := hcb.2.1.cell 1 rfl
              have hkZ : k < Z.length := by rw [HLEN.out]; exact hklt
              obtain ⟨b1, off1, e1, hb1, c0, c1, c2, c3, c4, c5, c6⟩ := hcb.1.cells k hkZ
              simp only [Option.some.injEq, Addr.mk.injEq, and_true] at e1
              obtain ⟨rfl, rfl⟩ := e1
              simp only [Nat.zero_add] at c0
              have ht := HTT.out k hkZ
              have hxok := HOKZ.out _ (List.getElem_mem hkZ)
              have hxt := HTOLD.out _ (List.getElem_mem hkZ)
              obtain ⟨x, hx⟩ : ∃ x, Z[k]'hkZ = x := ⟨_, rfl⟩
              rw [hx] at c0 ht hxok hxt
              have o1 : ovr x.t ((cum + (X.length : Int)) % 4294967296) = true := by rw [ht]; exact over_in hc0 (by omega) (by omega) (by omega)
              have o2 : ovr (IntKind.u32.wrap (x.t + (X.length : Int))) ((cum + (X.length : Int)) % 4294967296) = false := by rw [IntKind.wrap_u32, ht]; exact over_out hc0 (by omega) (by omega) (by omega)
              have hw1 : IntKind.u32.wrap (X.length : Int) = (X.length : Int) := by rw [IntKind.wrap_u32]; omega
              have HX := Lib.hid hx
              have HXT := Lib.hid hxt
              have HXOK := Lib.hid hxok
              have HCB := Lib.hid hcb
              clear c1 c2 c3 c4 c5 c6 ht hx hxt hxok hcb
              go_wp2
              go_region_held3 (fun w' => w'.cell? ⟨bF, 0, none⟩ = some (.int .u32 ((cum + (X.length : Int)) % 4294967296)) ∧ w'.cell? ⟨bF, 1, none⟩ = some (.slice sa S.length sc) ∧ w'.cell? ⟨g, k * 7, none⟩ = some (.int .u32 x.t)) (first | (simp [go_sem, *]; done) | assumption) (first
                | (go_at_call 17; ((with_reducible refine (over_any ((cum + (X.length : Int)) % 4294967296) x.t _ _).mono ?_)); rintro e w4 ⟨rfl, g4⟩; rw [o1]; have hc4 := HCB.out.drew' (turned_none (L := []) g4); have p0 := hc4.2.1.cell 0 rfl; have p1 := hc4.2.1.cell 1 rfl; have c0 := hc4.t0 k hkZ HX.out; have HC4 := Lib.hid hc4; have HT4 := Lib.hid (turned_trans HTK.out (turned_trans (turned_drew _ []) (turned_none (L := []) g4))); clear g4 hc4)
                | (go_at_call 17; ((with_reducible refine (over_any ((cum + (X.length : Int)) % 4294967296) (IntKind.u32.wrap (x.t + (X.length : Int))) _ _).mono ?_)); rintro e w5 ⟨rfl, g5⟩; rw [o2]; have hc5 := HC4.out.none_ (turned_none (L := []) g5); have p0 := hc5.2.1.cell 0 rfl; have p1 := hc5.2.1.cell 1 rfl; have c0 := hc5.t0 k hkZ HX.out; have HC5 := Lib.hid hc5; have HT5 := Lib.hid (turned_trans HT4.out (turned_none (L := []) g5)); clear g5 hc5))
              clear p0 o1 o2 hw1
              obtain ⟨b1, off1, e1, hb1, c0', c1, c2, c3, c4, c5, c6⟩ := HC5.out.1.cells k hkZ
              simp only [Option.some.injEq, Addr.mk.injEq, and_true] at e1
              obtain ⟨rfl, rfl⟩ := e1
              rw [HX.out] at c3
              simp only [Nat.zero_add] at c3
              clear c0' c1 c2 c4 c5 c6 c0
              go_wp2
              obtain ⟨wo, rfl⟩ : ∃ wo : World, wo = w5 := ⟨_, rfl⟩
              go_loopw [16, 17] (fun th i wr => ∃ (ii : Nat) (b : Bool), ii ≤ S.length ∧ b = (x.u || (S.take ii).any (toldP first x)) ∧ th = .bool b ∧ i = .int .i64 (ii : Int) ∧ turned w3 wr []) (fun _ i _ => S.length - (intOf i).toNat)
              case atStart => exact ⟨0, x.u, Nat.zero_le _, by simp, rfl, rfl, HT5.out⟩
              case round =>
                clear HTK HT4 HT5 HC4 HC5 HCB p1 c3
                obtain ⟨ii, b, hii, hb, rfl, rfl, htk⟩ := hrel
                have HTK := Lib.hid htk
                have HBB := Lib.hid hb
                clear htk hb
                have hcb := HC0.out.none_ HTK.out
                have p1 := hcb.2.1.cell 1 rfl
                by_cases hilt : ii < S.length
                · obtain ⟨b1, off1, e1, hb1, c0, c1, c2, c3, c4, c5, c6⟩ := hcb.1.cells k hkZ
                  simp only [Option.some.injEq, Addr.mk.injEq, and_true] at e1
                  obtain ⟨rfl, rfl⟩ := e1
                  rw [HX.out] at c1 c2
                  simp only [Nat.zero_add] at c1 c2
                  obtain ⟨bs, offs, rfl, d0, d1⟩ := lies_sk hcb.2.2 rfl ii hilt
                  have hstep := any_take (toldP first x) S ii hilt
                  obtain ⟨e, he⟩ : ∃ e, S[ii]'hilt = e := ⟨_, rfl⟩
                  rw [he] at d0 d1 hstep
                  have HST := Lib.hid hstep
                  have w1 := wrap16 e.2 first
                  have w2 := wrap16 x.n first
                  clear c0 c3 c4 c5 c6 he hstep hcb
                  cases b with
                  | true =>
                    go_wp2
                    go_quiet (fail)
                    go_wp2
                    go_roundw
                    case rel => exact ⟨ii + 1, true, by omega, by rw [HST.out, ← Bool.or_assoc, ← HBB.out]; rfl, rfl, by go_num, turned_drewN' _ HTK.out⟩
                    case measure => simp only [intOf]; omega
                  | false =>
                    cases hs : (e.1 == x.s) with
                    | false =>
                      have HS := Lib.hid hs
                      go_wp2
                      go_quiet (fail)
                      go_wp2
                      go_roundw
                      case rel => exact ⟨ii + 1, false, by omega, by rw [HST.out, ← Bool.or_assoc, ← HBB.out, toldP, HS.out]; rfl, rfl, by go_num, turned_drewN' _ HTK.out⟩
                      case measure => simp only [intOf]; omega
                    | true =>
                      have HS := Lib.hid hs
                      by_cases hd : dst first x.n ≤ dst first e.2
                      · have hdt : decide (dst first x.n ≤ dst first e.2) = true := decide_eq_true hd
                        have HD := Lib.hid hdt
                        go_wp2
                        go_quiet (fail)
                        go_wp2
                        go_roundw
                        case rel => exact ⟨ii + 1, true, by omega, by rw [HST.out, ← Bool.or_assoc, ← HBB.out, toldP, HS.out, HD.out]; rfl, rfl, by go_num, turned_drewN' _ HTK.out⟩
                        case measure => simp only [intOf]; omega
                      · have hdt : decide (dst first x.n ≤ dst first e.2) = false := decide_eq_false hd
                        have HD := Lib.hid hdt
                        go_wp2
                        go_quiet (fail)
                        go_wp2
                        go_roundw
                        case rel => exact ⟨ii + 1, false, by omega, by rw [HST.out, ← Bool.or_assoc, ← HBB.out, toldP, HS.out, HD.out]; rfl, rfl, by go_num, turned_drewN' _ HTK.out⟩
                        case measure => simp only [intOf]; omega
                · have hin : ii = S.length := by omega
                  obtain rfl : b = true := by rw [HBB.out, hin, List.take_length]; exact HXT.out
                  clear hcb
                  go_wp2
                  go_roundw
                  case rel => exact ⟨k + 1, by omega, by go_num, HTK.out⟩
                  case measure => simp only [intOf]; omega
            · go_wp2_with (go_at_call 8; refine (works_any _).mono ?_; rintro e w9 ⟨rfl, g9⟩)
              go_ret
              exact ⟨rfl, turned_below (turned_trans (turned_trans T3.out HTK.out) g9)⟩

set_option maxRecDepth 100000 in
set_option maxHeartbeats 1000000 in
theorem forwardCovers.walk (W : World) (cum : Int) (hw : (Lit.int .u32 cum).wf = true) (first : Int) (hf : (Lit.int .u16 first).wf = true) (v : Value) (X : List PD) (h : LiesD W v X) :
    Calls Try.prog 5 #[.int .u32 cum, .int .u16 first, v] W fun e w' => e = .returned (.bool true) ∧ Below W.heap.size W w' := by
  by_cases hn : X.length ≤ 200
  · by_cases h0 : 0 < X.length
    · exact covers_good W cum first v X (wf_u32_range hw) (wf_u16_range hf) h hn h0
    · obtain ⟨a, cap, rfl, hc1, hc2⟩ := h.1.form
      clear h
      have h2 : X.length = 0 := by omega
      rw [h2]
      go_enter Try.func5, Try.ntmps5
      go_wp2_with (go_at_call 8; refine (works_any _).mono ?_; rintro e w9 ⟨rfl, g9⟩)
      go_ret
      exact ⟨rfl, turned_below g9⟩
  · obtain ⟨a, cap, rfl, hc1, hc2⟩ := h.1.form
    clear h
    have h2 : 200 < X.length := by omega
    go_enter Try.func5, Try.ntmps5
    go_wp2_with (go_at_call 8; refine (works_any _).mono ?_; rintro e w9 ⟨rfl, g9⟩)
    go_ret
    exact ⟨rfl, turned_below g9⟩
end Go.Proofs.Ytdmoknijpapedaa
