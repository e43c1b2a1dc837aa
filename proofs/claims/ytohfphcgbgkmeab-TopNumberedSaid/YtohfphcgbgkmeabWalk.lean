/- The walk of 'numbered'. -/
import Derived.Test.YtohfphcgbgkmeabNumPlain
import Derived.Test.YtohfphcgbgkmeabSerial
import Derived.Deep.RegionWith
namespace Go.Proofs.Ytohfphcgbgkmeab
open Go.RowKit

set_option maxHeartbeats 3200000 in
set_option maxRecDepth 100000 in
theorem numbered_any (x width : Int) (pv : Value) (q : List Int) (a b n : Int) (w : World) (x0 : 0 ≤ x) (x1 : x ≤ 18446744073709551615) (w0 : 0 ≤ width) (w1 : width ≤ 255) (hq : Rd .u8 w pv q) (hqb : Bytes q) (hql : q.length ≤ 300)
    (a0 : 0 ≤ a) (a1 : a ≤ 4294967295) (b0 : 0 ≤ b) (b1 : b ≤ 4294967295) (n0 : -2147483648 ≤ n) (n1 : n ≤ 2147483647) :
    Calls Try.prog 4 #[.int .u64 x, .int .u8 width, pv, .int .u32 a, .int .u32 b, .int .i32 n] w fun e w' => e = .returned (.bool true) ∧ Below w.heap.size w w' := by
  obtain ⟨i5, hi, hz0, hz1, hz2⟩ := info_parts infoB
  have HQ := Lib.hid hq
  have HQB := Lib.hid hqb
  obtain ⟨pa, pc, rfl⟩ := hq.slice
  clear hq hqb
  obtain ⟨k, hk⟩ : ∃ k : Nat, (k : Int) = width % 10 := ⟨(width % 10).toNat, by omega⟩
  have hk9 : k ≤ 9 := by omega
  have HK := Lib.hid hk
  clear hk
  go_enter Try.func4, Try.ntmps4
  go_upto_region 1 with fail
  go_cut [13] (fun s13 wx => s13 = .int .i64 k ∧ w = wx)
  case first => as_aux_lemma =>
    go_wp2_with fail
    go_meet
    case rel => exact ⟨int_eq (by rw [HK.out]), rfl⟩
  case rest =>
  obtain ⟨rfl, rfl⟩ := hcut
  have hlay : layL [255] x k = [255] ++ (if k ≤ 8 then wideL x k else []) := rfl
  have HLAY := Lib.hid hlay
  clear hlay
  go_upto_if 40 with fail
  go_cut [14] (fun s14 wx => Own .u8 5 wx w.heap.size s14 (layL [255] x k) ∧ Below w.heap.size w wx)
  case first => as_aux_lemma =>
    by_cases h8 : k ≤ 8
    · have hw : wideL x k = wideL x k := rfl
      go_wp2_with (first
        | (go_at_call 5; refine (wide_any x k _ h8).mono ?_; rintro e wA ⟨vA, rfl, hown, hbel⟩; have HO := Lib.hid hown; have HB := Lib.hid (((Below.refl w.heap.size w).alloc (Nat.le_refl _) _).trans (hbel.mono (by simp))); have HL := Lib.hid ((Own.lit w .u8 5 #[.int .u8 255] [255] rfl 1 w.heap.size w.heap.size rfl rfl (Nat.le_refl _) (by simp [maxLen])).below hbel); clear hown hbel)
        | (at_builtin; go_must (refine wpList_append_src _ rfl (.tmp 41) (.tmp 44) 23 rfl w.heap.size 5 i5 (.int .u8 0) 1 1 Try.underlying23 hi hz0 hz1 hz2 rfl (by decide) _ 1 (([255] : List Int).map (Value.int .u8)) rfl HL.out _ _ _ rfl HO.out.rd.src (by simp) (ints_oneCell _ _) (by simp [wideL_len, maxLen]; omega) (by simp [wideL_len]; omega) HB.out.size ?_)))
      intro v2 w2 hown2 hgrow
      have H2 := Lib.hid (Own.of (k := .u8) hown2 ([255] ++ wideL x k) (by simp))
      have HB2 := Lib.hid (HB.out.grown hgrow HB.out.size (fun g hg => (HL.out.lt g hg).1))
      clear hown2 hgrow
      go_wp2_with fail
      go_meet
      case rel => exact ⟨by rw [HLAY.out, if_pos h8]; exact H2.out, HB2.out⟩
    · go_wp2_with fail
      go_meet
      case rel => exact ⟨by rw [HLAY.out, if_neg h8]; exact Own.lit w .u8 5 #[.int .u8 255] [255] rfl 1 w.heap.size w.heap.size rfl rfl (Nat.le_refl _) (by simp [maxLen]), (Below.refl _ _).alloc (Nat.le_refl _) _⟩
  case rest =>
  obtain ⟨hown, hbel⟩ := hcut
  have HD := Lib.hid hown
  have HBD := Lib.hid hbel
  clear hown hbel
  rename_i vD
  obtain ⟨gD, cD, hvD, hgD, hcD, hmD, hcells⟩ := HD.out.shape (by rw [HLAY.out]; simp)
  subst hvD
  have HLB : Bytes (layL [255] x k) := by rw [HLAY.out]; intro y hy; simp only [List.mem_append] at hy; rcases hy with hy | hy; · simp at hy; omega
                                          · split at hy; · exact wideL_bytes _ _ _ hy
                                            · simp at hy
  have HLBY := Lib.hid HLB
  clear hcells HLB
  go_upto_if 53 with (first
    | (go_at_call 6; refine (lay_any _ [255] x k _ (by exact (Own.lit wc .u8 5 #[.int .u8 255] [255] rfl 1 wc.heap.size 0 rfl rfl (Nat.zero_le _) (by simp [maxLen])).rd) (by simp) (by omega)).mono ?_; rintro e wA ⟨vA, rfl, hown, hbel⟩; have HO := Lib.hid hown; have HBA := Lib.hid (((Below.refl wc.heap.size wc).alloc (Nat.le_refl _) _).trans (hbel.mono (by simp))); have HDA := Lib.hid (HD.out.below HBA.out); have HBW := Lib.hid (HBD.out.trans (HBA.out.mono HBD.out.size)); clear hown hbel)
    | (go_at_call 7; refine (equal_any _ _ _ _ true _ HO.out.rd HDA.out.rd HLBY.out HLBY.out (by simp)).mono ?_; rintro e w' ⟨rfl, rfl⟩))
  go_upto_if 56 with fail
  go_cut [16] (fun s16 wx => s16 = .int .u64 (lowV x k) ∧ wA = wx)
  case first => as_aux_lemma =>
    by_cases h8 : k < 8
    · go_wp2_with fail
      go_meet
      case rel => exact ⟨int_eq (low_and x k x0 x1 h8), rfl⟩
    · go_wp2_with fail
      go_meet
      case rel => exact ⟨int_eq (by unfold lowV; rw [if_neg h8]), rfl⟩
  case rest =>
  obtain ⟨rfl, rfl⟩ := hcut
  have hdrop : (layL [255] x k).drop 1 = if k ≤ 8 then wideL x k else [] := by rw [HLAY.out]; simp
  obtain ⟨A, hA⟩ : ∃ A : Option Addr, (if cD = 1 then some ⟨gD, 0, none⟩ else some ⟨gD, 1, none⟩) = A := ⟨_, rfl⟩
  have HTD := Lib.hid (HDA.out.rd.from 1 (by rw [HLAY.out]; simp) A (by rw [← hA]))
  have HDR := Lib.hid hdrop
  clear hdrop
  have hD1 : 1 ≤ (layL [255] x k).length := by rw [HLAY.out]; simp
  obtain ⟨m, hm⟩ : ∃ m, m = num ((layL [255] x k).drop 1) := ⟨_, rfl⟩
  have hm8 : k ≤ 8 → m = lowV x k := fun h => by rw [hm, HDR.out, if_pos h, num_wide x k x0 x1 h]
  have HM := Lib.hid hm
  have HM8 := Lib.hid hm8
  have htb : Bytes ((layL [255] x k).drop 1) := fun y hy => HLBY.out y (List.mem_of_mem_drop hy)
  have htl : ((layL [255] x k).drop 1).length ≤ 8 := by rw [HDR.out]; split <;> simp [wideL_len]; omega
  clear hm hm8
  go_upto_region 12 with (go_at_call 8; refine (tell_any _ _ _ HTD.out htb htl).mono ?_; rw [← HM.out]; rintro e w' ⟨rfl, rfl⟩)
  go_cut [80] (fun s80 wx => s80 = .bool false ∧ wA = wx)
  case first => as_aux_lemma =>
    by_cases h8 : k ≤ 8
    · obtain rfl := HM8.out h8
      go_wp2
      go_meet
      case rel => exact ⟨rfl, rfl⟩
    · go_wp2
      go_meet
      case rel => exact ⟨rfl, rfl⟩
  case rest =>
  obtain ⟨rfl, rfl⟩ := hcut
  clear HTD HM HM8 htb htl HDR hD1 hA A HO HDA HBA HD HBD HLBY hmD hcD hgD
  go_upto_region 15 with fail
  go_cut [87] (fun s87 wx => s87 = .bool (decide (1 ≤ k ∧ k ≤ 7)) ∧ wA = wx)
  case first => as_aux_lemma =>
    by_cases h7 : 1 ≤ k
    · go_wp2
      go_meet
      case rel => exact ⟨by simp [h7] <;> omega, rfl⟩
    · go_wp2
      go_meet
      case rel => exact ⟨by simp [h7] <;> omega, rfl⟩
  case rest =>
  obtain ⟨rfl, rfl⟩ := hcut
  go_upto_if 87 with fail
  go_cut [19] (fun s19 wx => s19 = .int .u64 (sgnV x k) ∧ wA = wx)
  case first => as_aux_lemma =>
    by_cases h7 : 1 ≤ k ∧ k ≤ 7
    · obtain ⟨h7, h8⟩ := h7
      go_wp2
      go_meet
      case rel => exact ⟨int_eq (by unfold sgnV; rw [if_pos ⟨h7, h8⟩, show 8 * (8 - k) = 64 - 8 * k by omega]; rfl), rfl⟩
    · have h : k = 0 ∨ 8 ≤ k := by omega
      rcases h with rfl | h
      · go_wp2
        go_meet
        case rel => exact ⟨int_eq (by unfold sgnV; rw [if_neg (by omega)]), rfl⟩
      · go_wp2
        go_meet
        case rel => exact ⟨int_eq (by unfold sgnV; rw [if_neg (by omega)]), rfl⟩
  case rest =>
  obtain ⟨rfl, rfl⟩ := hcut
  clear HLAY
  obtain ⟨wB, hwB⟩ : ∃ wB, wB = wA.alloc (.cells #[.int .i64 1, .int .i64 4, .int .i64 k] 3) := ⟨_, rfl⟩
  have hLL : Own .i64 3 (wA.alloc (.cells #[.int .i64 1, .int .i64 4, .int .i64 k] 3)) w.heap.size (.slice (some ⟨wA.heap.size, 0, none⟩) 3 3) [1, 4, (k : Int)] := Own.lit wA .i64 3 _ [1, 4, (k : Int)] rfl 3 _ _ rfl rfl HBW.out.size (by simp [maxLen])
  have hBL : Below w.heap.size w (wA.alloc (.cells #[.int .i64 1, .int .i64 4, .int .i64 k] 3)) := HBW.out.alloc HBW.out.size _
  have HLL := Lib.hid hLL
  have HBL := Lib.hid hBL
  clear hLL hBL hwB wB
  go_wp2_with (go_at_call 9; refine (signed_any x k _ hk9).mono ?_; rintro e w' ⟨rfl, rfl⟩)
  go_loopg [109] 3 (fun g s109 wr => ∃ i : Nat, g + i = 3 ∧ s109 = .int .i64 i ∧ Own .i64 3 wr w.heap.size (.slice (some ⟨wA.heap.size, 0, none⟩) 3 3) [1, 4, (k : Int)] ∧ Below w.heap.size w wr)
  case atStart => exact ⟨0, rfl, rfl, HLL.out, HBL.out⟩
  case round =>
    obtain ⟨i, hgi, rfl, hown, hbel⟩ := hrel
    have HGI := Lib.hid hgi
    have HL := Lib.hid hown
    have HB := Lib.hid hbel
    clear hgi hown hbel HLL HBL HBW
    by_cases h3 : i < 3
    · obtain ⟨u, hu, hu9⟩ : ∃ u : Nat, ([1, 4, (k : Int)]).getD i 0 = u ∧ u ≤ 9 := by
        match i, h3 with
        | 0, _ => exact ⟨1, rfl, by decide⟩
        | 1, _ => exact ⟨4, rfl, by decide⟩
        | 2, _ => exact ⟨k, rfl, hk9⟩
      have hcell : wr.cell? ⟨wA.heap.size, i, none⟩ = some (.int .i64 u) := by
        obtain ⟨g, cap, hv, _, _, _, hc⟩ := HL.out.shape (by simp)
        simp only [Value.slice.injEq, Option.some.injEq, Addr.mk.injEq, and_true] at hv
        rw [hv.1, hc i (by simpa using h3), hu]
      have HU := Lib.hid hu
      clear hu
      have hlit : Rd .u8 (wr.alloc (.cells #[.int .u8 7] 5)) (.slice (some ⟨wr.heap.size, 0, none⟩) 1 1) [7] := (Own.lit wr .u8 5 #[.int .u8 7] [7] rfl 1 wr.heap.size 0 rfl rfl (Nat.zero_le _) (by simp [maxLen])).rd
      have HLIT := Lib.hid hlit
      have hqr : Rd .u8 wr (.slice pa q.length pc) q := HQ.out.keep (fun a ha => HB.out.cell ha)
      have HQR := Lib.hid hqr
      clear hlit hqr
      by_cases hm : mayB u q.length = true
      · as_aux_lemma =>
        have hb1 : u = 1 ∧ q.length ≤ 255 ∨ u = 4 := by have := mayB_le hm; omega
        have hu8 : u ≤ 8 := by omega
        have HM := Lib.hid hm
        have HB1 := Lib.hid hb1
        clear hm hb1
        go_upto_region 23 with (go_at_call 10; refine (layPiece_ok _ _ [7] q u _ HLIT.out (HQR.out.below ((Below.refl _ _).alloc (Nat.le_refl _) _)) (by simp) (by omega) HM.out).mono ?_; rintro e wP ⟨vP, rfl, hown, hbel⟩; have HP := Lib.hid hown; have HBP := Lib.hid (((Below.refl wr.heap.size wr).alloc (Nat.le_refl _) _).trans (hbel.mono (by simp))); clear hown hbel)
        go_cut [134] (fun s134 wx => s134 = .bool false ∧ wP = wx)
        case first => as_aux_lemma =>
          rcases HB1.out with ⟨h1, h2⟩ | h1
          · subst h1
            go_wp2
            go_meet
            case rel => exact ⟨by simp; omega, rfl⟩
          · subst h1
            go_wp2
            go_meet
            case rel => exact ⟨rfl, rfl⟩
        case rest =>
        obtain ⟨rfl, rfl⟩ := hcut
        go_upto_region 26 with fail
        go_cut [24] (fun s24 wx => Own .u8 5 wx wr.heap.size s24 ([7] ++ wideL q.length u ++ q) ∧ Below wP.heap.size wP wx)
        case first => as_aux_lemma =>
          go_wp2_with (first
            | (go_at_call 5; refine (wide_any q.length u _ hu8).mono ?_; rintro e wW ⟨vW, rfl, hown, hbel⟩; have HW := Lib.hid hown; have HBW := Lib.hid (((Below.refl wP.heap.size wP).alloc (Nat.le_refl _) _).trans (hbel.mono (by simp))); have H7 := Lib.hid ((Own.lit wP .u8 5 #[.int .u8 7] [7] rfl 1 wP.heap.size wP.heap.size rfl rfl (Nat.le_refl _) (by simp [maxLen])).below hbel); clear hown hbel)
            | (at_builtin; refine wpList_append_src _ rfl (.tmp 142) (.tmp 147) 23 rfl wP.heap.size 5 i5 (.int .u8 0) 1 1 Try.underlying23 hi hz0 hz1 hz2 rfl (by decide) _ 1 (([7] : List Int).map (Value.int .u8)) rfl H7.out _ _ _ rfl HW.out.rd.src (by simp) (ints_oneCell _ _) (by simp [wideL_len, maxLen]; omega) (by simp [wideL_len]; omega) HBW.out.size ?_; intro v2 w2 hown2 hgrow; have H2 := Lib.hid (Own.of (k := .u8) hown2 ([7] ++ wideL q.length u) (by simp)); have HB2 := Lib.hid (HBW.out.grown hgrow HBW.out.size (fun g hg => (H7.out.lt g hg).1)); clear hown2 hgrow)
            | (at_builtin; go_must (refine wpList_append_src _ rfl (.tmp 148) (.tmp 149) 23 rfl wP.heap.size 5 i5 (.int .u8 0) 1 1 Try.underlying23 hi hz0 hz1 hz2 rfl (by decide) _ _ _ rfl H2.out _ q.length _ rfl (HQR.out.below (HBP.out.trans (HB2.out.mono HBP.out.size))).src (by simp) (ints_oneCell _ _) (by simp [wideL_len, maxLen]; omega) (by simp [wideL_len]; omega) HB2.out.size ?_); intro v3 w3 hown3 hgrow; have H3 := Lib.hid (Own.of (k := .u8) hown3 ([7] ++ wideL q.length u ++ q) (by simp)); have HB3 := Lib.hid (HB2.out.grown hgrow HB2.out.size (fun g hg => (H2.out.lt g hg).1)); clear hown3 hgrow))
          go_meet
          case rel => exact ⟨H3.out.mono HBP.out.size, HB3.out⟩
        case rest =>
        obtain ⟨hown, hbel⟩ := hcut
        obtain ⟨L, hL⟩ : ∃ L, L = [7] ++ wideL q.length u ++ q := ⟨_, rfl⟩
        rw [← hL] at hown
        have hu1 : 1 ≤ u := by have := mayB_le HM.out; omega
        have hLl : L.length = 1 + u + q.length := by rw [hL]; simp [wideL_len]; omega
        have hLd : L.drop 1 = wideL q.length u ++ q := by rw [hL]; simp
        have hLb : Bytes L := by rw [hL]; exact bytes_app (bytes_app (by intro y hy; simp at hy; omega) (wideL_bytes _ _)) HQB.out
        have hL2 : 2 ≤ L.length := by omega
        have hL3 : L.length ≤ 400 := by omega
        have HO := Lib.hid hown
        have HBO := Lib.hid hbel
        rename_i vO
        obtain ⟨wO, rfl⟩ : ∃ wO : World, wO = wc := ⟨_, rfl⟩
        obtain ⟨g, c, hv, hg, hc, hm2, hcells⟩ := HO.out.shape (by omega)
        subst hv
        have hc1 : ¬ c = 1 := by omega
        have hrd : Rd .u8 wO (.slice (some ⟨g, 1, none⟩) (L.length - 1) (c - 1)) (L.drop 1) := HO.out.rd.from 1 (by omega) _ (by rw [if_neg hc1])
        have HRD := Lib.hid hrd
        have HLL := Lib.hid hLl
        have HLD := Lib.hid hLd
        have HLB := Lib.hid hLb
        have HLE := Lib.hid hL
        clear hown hbel hcells hrd hLl hLd hLb hL
        go_upto_region 27 with fail
        go_cut [25, 26, 27] (fun s25 s26 s27 wx => Own .u8 5 wx wO.heap.size s25 q ∧ Own .u8 5 wx wO.heap.size s26 [9, 9] ∧ s27 = .int .i64 0 ∧ Below wO.heap.size wO wx)
        case first => as_aux_lemma =>
          go_wp2_with (first
            | (go_at_call 12; refine (clone_any _ (L.drop 1) _ HRD.out (by simp; omega)).mono ?_; rintro e wC ⟨vC, rfl, hown, hbel⟩; have HC := Lib.hid hown; have HBC := Lib.hid hbel; clear hown hbel)
            | (at_builtin; go_must (refine wpList_append_src _ rfl (.tmp 154) (.tmp 155) 23 rfl wO.heap.size 5 i5 (.int .u8 0) 1 1 Try.underlying23 hi hz0 hz1 hz2 rfl (by decide) _ _ _ rfl (HC.out.alloc _) _ 2 (([9, 9] : List Int).map (Value.int .u8)) rfl (lit_src _ .u8 _ _ [9, 9] rfl _ _ rfl rfl (by simp [maxLen])) rfl (ints_oneCell _ _) (by simp [maxLen]; omega) (by simp; omega) (by have := HBC.out.size; simp; omega) ?_); intro v2 w2 hown2 hgrow; have H2 := Lib.hid (Own.of (k := .u8) hown2 (wideL q.length u ++ q ++ [9, 9]) (by rw [← HLD.out]; simp)); have HB2 := Lib.hid ((HBC.out.alloc HBC.out.size _).grown hgrow (by have := HBC.out.size; simp; omega) (fun g hg => (HC.out.lt g hg).1)); clear hown2 hgrow)
            | (go_at_call 11; go_must (refine (piece_back _ q [9, 9] u _ HM.out H2.out.rd HQB.out (by intro y hy; simp at hy; omega) (by simp)).mono ?_); rintro e w3 ⟨v1, v3, rfl, h1, h3, hbel⟩; have HV1 := Lib.hid h1; have HV3 := Lib.hid h3; have HB3 := Lib.hid hbel; clear h1 h3 hbel))
          go_meet
          case rel => exact ⟨HV1.out.mono HB2.out.size, HV3.out.mono HB2.out.size, rfl, HB2.out.trans (HB3.out.mono HB2.out.size)⟩
        case rest =>
        obtain ⟨h1, h2, rfl, hbel⟩ := hcut
        obtain ⟨wQ, rfl⟩ : ∃ wQ : World, wQ = wc := ⟨_, rfl⟩
        have HQ1 := Lib.hid h1
        have HZ1 := Lib.hid h2
        have HBQ := Lib.hid hbel
        clear h1 h2 hbel
        have hrt : Rd .u8 wQ (.slice (some ⟨g, 1, none⟩) (L.length - 1 - 1) (c - 1)) ((L.drop 1).take (L.length - 1 - 1)) := (HRD.out.below HBQ.out).take _ (by simp)
        rw [HLD.out, show L.length - 1 - 1 = u + q.length - 1 by have := HLL.out; omega] at hrt
        have HRT := Lib.hid hrt
        clear hrt
        go_upto_region 28 with fail
        go_cut [28, 29, 30] (fun s28 s29 s30 wx => s30 = .int .i64 7 ∧ wQ = wx)
        case first => as_aux_lemma =>
          have he : Hid (u + q.length - 1 = L.length - 1 - 1) := by show _ = _; have := HLL.out; omega
          go_wp2_with (go_at_call 11; rw [← he.out]; go_must (refine (piece_less _ q u _ HM.out HRT.out HQB.out).mono ?_); rintro e w' ⟨rfl, rfl⟩)
          go_meet
          case rel => exact ⟨rfl, rfl⟩
        case rest =>
        obtain ⟨rfl, rfl⟩ := hcut
        have hp1 : Own .u8 5 wQ (wr.alloc (.cells #[.int .u8 7] 5)).heap.size vP L := by rw [HLE.out]; exact (HP.out.below HBO.out).below HBQ.out
        have hp2 : Own .u8 5 wQ wr.heap.size (.slice (some ⟨g, 0, none⟩) L.length c) L := HO.out.below HBQ.out
        have hp3 : Rd .u8 wQ (.slice pa q.length pc) q := ((HQR.out.below HBP.out).keep (fun a ha => HBO.out.cell ha)).keep (fun a ha => HBQ.out.cell ha)
        have HP1 := Lib.hid hp1
        have HP2 := Lib.hid hp2
        have HP3 := Lib.hid hp3
        clear hp1 hp2 hp3
        go_upto_region 29 with fail
        go_cut [200] (fun s200 wx => s200 = .bool false ∧ wQ.alloc (.cells #[.int .u8 9, .int .u8 9] 5) = wx)
        case first => as_aux_lemma =>
          have hz9 : Bytes [9, 9] := by intro y hy; simp at hy; omega
          go_wp2_with (first
            | (go_at_call_of 7 vP; go_must (refine (equal_any _ _ L L true _ HP1.out.rd HP2.out.rd HLB.out HLB.out (by simp)).mono ?_); rintro e w' ⟨rfl, rfl⟩)
            | (go_at_call_of 7 u25; go_must (refine (equal_any _ _ q q true _ HQ1.out.rd HP3.out HQB.out HQB.out (by simp)).mono ?_); rintro e w' ⟨rfl, rfl⟩)
            | (go_at_call_of 7 u26; go_must (refine (equal_any _ _ [9, 9] [9, 9] true _ (HZ1.out.alloc _).rd (Own.lit wQ .u8 5 #[.int .u8 9, .int .u8 9] [9, 9] rfl 2 _ 0 rfl rfl (Nat.zero_le _) (by simp [maxLen])).rd hz9 hz9 (by simp)).mono ?_); rintro e w' ⟨rfl, rfl⟩))
          go_meet
          case rel => exact ⟨rfl, rfl⟩
        case rest =>
        obtain ⟨rfl, rfl⟩ := hcut
        have hbf : Below wr.heap.size wr wQ := (HBP.out.trans (HBO.out.mono HBP.out.size)).trans (HBQ.out.mono (Nat.le_trans HBP.out.size HBO.out.size))
        have HBF := Lib.hid hbf
        clear hbf
        go_wp2
        go_roundg (3 - 1 - i)
        case measure => have := HGI.out; omega
        case rel => exact ⟨i + 1, by have := HGI.out; omega, by go_num, (HL.out.below HBF.out).alloc _, (HB.out.trans (HBF.out.mono HB.out.size)).alloc (by have := HB.out.size; have := HBF.out.size; omega) _⟩
      · as_aux_lemma =>
        have hm : mayB u q.length = false := by simpa using hm
        have hb1 : u = 1 ∧ 255 < q.length ∨ u ≠ 1 ∧ u ≠ 4 := by
          unfold mayB at hm
          split at hm
          · exact .inl ⟨by omega, by simp at hm; omega⟩
          · split at hm
            · simp at hm; omega
            · exact .inr ⟨by omega, by omega⟩
        have HM := Lib.hid hm
        have HB1 := Lib.hid hb1
        clear hm hb1
        go_upto_region 23 with (go_at_call 10; refine (layPiece_bad _ _ q _ _ (HQR.out.below ((Below.refl _ _).alloc (Nat.le_refl _) _)) (by omega) HM.out).mono ?_; rintro e w' ⟨rfl, rfl⟩)
        go_cut [134] (fun s134 wx => s134 = .bool true ∧ (wr.alloc (.cells #[.int .u8 7] 5)) = wx)
        case first => as_aux_lemma =>
          rcases HB1.out with ⟨h1, h2⟩ | ⟨h1, h2⟩
          · subst h1
            go_wp2
            go_meet
            case rel => exact ⟨by simp; omega, rfl⟩
          · have e1 : ((u : Int) != 1) = true := by simp; omega
            have e2 : ((u : Int) != 4) = true := by simp; omega
            go_wp2
            go_meet
            case rel => exact ⟨rfl, rfl⟩
        case rest =>
        obtain ⟨rfl, rfl⟩ := hcut
        go_wp2
        go_roundg (3 - 1 - i)
        case measure => have := HGI.out; omega
        case rel => exact ⟨i + 1, by have := HGI.out; omega, by go_num, HL.out.alloc _, HB.out.alloc HB.out.size _⟩
    · obtain ⟨f, hf⟩ : ∃ f, f = far a b := ⟨_, rfl⟩
      have hfb := far_bd a b
      rw [← hf] at hfb
      obtain ⟨f0, f1⟩ := hfb
      have HF := Lib.hid hf
      clear hf
      go_upto_region 32 with fail
      go_cut [31] (fun s31 wx => s31 = .int .u32 f ∧ wr = wx)
      case first => as_aux_lemma =>
        go_wp2
        go_meet
        case rel => exact ⟨int_eq (by rw [HF.out]; rfl), rfl⟩
      case rest =>
      obtain ⟨rfl, rfl⟩ := hcut
      have e0 : Hid ((f = far a b)) := HF
      by_cases hn : 0 < n <;> by_cases hh : f ≤ 2147483647 <;> by_cases hz : 0 < f
      all_goals
        first
        | (exfalso; omega)
        | as_aux_lemma =>
            have HSM : Hid ((if f ≤ 2147483647 then f + 1 else 0) = if far a b ≤ 2147483647 then far a b + 1 else 0) := by show _ = _; rw [← HF.out]
            have HSR : Hid (decide (f ≤ 2147483647) = decide (far a b ≤ 2147483647)) := by show _ = _; rw [← HF.out]
            have HLR : Hid (decide (0 < f ∧ f ≤ 2147483647) = lessB a b) := by show _ = _; unfold lessB; rw [← HF.out]
            have HIR : Hid (decide (f < n) = decide (far a b < n)) := by show _ = _; rw [← HF.out]
            have HIS : Hid (true = decide (far a b < 4294967296)) := by show _ = _; rw [← HF.out]; simp; omega
            clear e0
            go_wp2_with (first
              | (go_at_call 13; go_must (refine (span_at a b _ _ _ HSM HSR).mono ?_); rintro e w' ⟨rfl, rfl⟩)
              | (go_at_call 14; go_must (refine (less_at a b _ _ a0 a1 b0 b1 HLR).mono ?_); rintro e w' ⟨rfl, rfl⟩)
              | (go_at_call 15; go_must (refine (add_any a n _).mono ?_); rintro e w' ⟨rfl, rfl⟩)
              | (go_at_call_of 16 n; go_must (refine (in_at b a n _ _ HIR).mono ?_); rintro e w' ⟨rfl, rfl⟩)
              | (go_at_call 16; go_must (refine (in_at b a 4294967296 _ _ HIS).mono ?_); rintro e w' ⟨rfl, rfl⟩))
            go_ret
            first | exact ⟨rfl, HB.out⟩ | exact ⟨ret_bool (by simp; omega), HB.out⟩
end Go.Proofs.Ytohfphcgbgkmeab
