/- The walk of TopWindowed. -/
import Derived.Test.YtohfphcgbgkmeacLoop
import Derived.Deep.LoopGhost
import Derived.Deep.DeepCutAuto
import Derived.Deep.CutBlock
import Derived.Deep.DeepMust
import Derived.Deep.RegionWith
namespace Go.Proofs.Ytohfphcgbgkmeac
open Go.RowKit

theorem infoA : (Try.prog.info? 29).map (fun i => (i.zero, i.size, i.bytes)) = some (some (.agg #[.int .u32 0, .int .u32 0, .int .u32 0]), 3, 12) := by kernel_rfl

/-- The things that are done first. -/
def known0 : List Int := [0, 7, 2, 1, 0, 0, 1, 0, 0, 1, 0, 0, 2, 3, 3, 3, 0, 0, 3, 0, 0, 4, 0, 0, 5, 1, 4, 6, 0, 0, 7, 0, 0, 8, 4, 1, 9, 3, 0]

theorem grown3 {w : World} (w2 : World) {S G : Int} (r : Option Nat) (o : Obj) (h : ((((w.alloc (.cells (winC S 0 0 false 0 S) 46)).alloc (.cells (creC G 0 false) 48)).alloc (.cells (creC G 0 false) 48)).alloc o).grownBy w2 r)
    (hr : ∀ k, r = some k → w.heap.size + 1 + 1 + 1 ≤ k) :
    Str w2 w.heap.size 46 (winC S 0 0 false 0 S) ∧ Str w2 (w.heap.size + 1) 48 (creC G 0 false) ∧ Str w2 (w.heap.size + 1 + 1) 48 (creC G 0 false) ∧ Below w.heap.size w w2 := by
  have e1 : Str (w.alloc (.cells (winC S 0 0 false 0 S) 46)) w.heap.size 46 (winC S 0 0 false 0 S) := Str.new _ _ _
  have e2 : Str ((w.alloc (.cells (winC S 0 0 false 0 S) 46)).alloc (.cells (creC G 0 false) 48)) (w.heap.size + 1) 48 (creC G 0 false) := by have := Str.new (w.alloc (.cells (winC S 0 0 false 0 S) 46)) 48 (creC G 0 false); simpa using this
  have e3 : Str (((w.alloc (.cells (winC S 0 0 false 0 S) 46)).alloc (.cells (creC G 0 false) 48)).alloc (.cells (creC G 0 false) 48)) (w.heap.size + 1 + 1) 48 (creC G 0 false) := by have := Str.new ((w.alloc (.cells (winC S 0 0 false 0 S) 46)).alloc (.cells (creC G 0 false) 48)) 48 (creC G 0 false); simpa using this
  have hne : ∀ j, j < w.heap.size + 1 + 1 + 1 → some j ≠ r := fun j hj e => by have := hr j e.symm; omega
  refine ⟨(((e1.alloc _).alloc _).alloc o).keep h (hne _ (by omega)), ((e2.alloc _).alloc o).keep h (hne _ (by omega)), (e3.alloc o).keep h (hne _ (by omega)), ?_⟩
  exact (((((Below.refl w.heap.size w).alloc (Nat.le_refl _) _).alloc (by simp) _).alloc (by simp; omega) _).alloc (by simp; omega) o).grown h (by simp; omega) (fun k hk => by have := hr k hk; omega)

noncomputable def R3 : Code := ((Try.f3.body.bind (fromR 3)).getD .skip)

set_option maxHeartbeats 32000000 in
set_option maxRecDepth 1000000 in
theorem from3 {a : Act} (G : Int) (lv : Value) (n : Nat) (zl : List Int) (w : World) (g0 : 0 ≤ G) (g1 : G ≤ 4294967295) (hl : RdN .u32 3 w lv n zl) (hlb : ∀ x ∈ zl, 0 ≤ x ∧ x ≤ 4294967295)
    (hf : Fr 420 a) (s0 : sl a 0 = .int .u32 G) (s1 : sl a 1 = lv) :
    Code.wp Try.prog R3 (bodyPost Try.prog Try.f3 (fun e w' => e = .returned (.bool true) ∧ Below w.heap.size w w')) a w := by
  have HL := Lib.hid hl
  have HLB := Lib.hid hlb
  clear hl hlb
  obtain ⟨iA, hi, hz0, hz1, hz2⟩ := info_parts infoA
  obtain ⟨M, hM⟩ : ∃ M : Int, (if G < 1 then 1 else G) = M := ⟨_, rfl⟩
  obtain ⟨S, hS⟩ : ∃ S : Int, (if 256 < M then 256 else M) = S := ⟨_, rfl⟩
  have hSM : S = min (max G 1) 256 := by rw [← hS, ← hM]; split <;> split <;> omega
  have hS0 : 1 ≤ S ∧ S ≤ 256 := by omega
  obtain ⟨S0, S1⟩ := hS0
  have HS := Lib.hid hSM
  clear hSM
  obtain ⟨la, lc, hlv, hnc⟩ := HL.out.slice
  subst hlv
  obtain ⟨m, hm⟩ : ∃ m : Nat, (if (120 : Int) < (n : Int) then 120 else (n : Int)) = m := ⟨min n 120, by split <;> omega⟩
  have hmn : m ≤ n ∧ m ≤ 120 := by split at hm <;> omega
  obtain ⟨hmn, hm120⟩ := hmn
  have hmc : m ≤ lc := by omega
  have hsrc := (HL.out.take' m hmn)
  have HSRC := Lib.hid hsrc
  have hlen : (known0 ++ zl.take (m * 3)).length = (13 + m) * 3 := by rw [List.length_append, hsrc.1]; simp [known0]; omega
  have hkb : ∀ x ∈ known0 ++ zl.take (m * 3), 0 ≤ x ∧ x ≤ 4294967295 := by
    intro x hx
    rcases List.mem_append.1 hx with h | h
    · simp [known0] at h; omega
    · exact HLB.out x (List.mem_of_mem_take h)
  have HLEN := Lib.hid hlen
  have HKB := Lib.hid hkb
  clear hsrc hlen hkb
  have hlit : ∀ (o1 o2 o3 : Obj), ((((w.alloc o1).alloc o2).alloc o3).alloc (.cells (known0.map (Value.int .u32)).toArray 29)).ownsRow (w.heap.size + 1 + 1 + 1) 29 3 (.slice (some ⟨w.heap.size + 1 + 1 + 1, 0, none⟩) 13 13) 13 (known0.map (Value.int .u32)) := fun o1 o2 o3 => by
    have h := World.ownsRow_lit (base := w.heap.size + 1 + 1 + 1) (e := 29) (size := 3) (((w.alloc o1).alloc o2).alloc o3) (known0.map (Value.int .u32)).toArray 13 (by simp) (by simp [maxLen]) (by simp [known0])
    simpa using h
  have HLIT := Lib.hid hlit
  clear hlit
  refine hf.wp ?_
  show Code.wp _ R3 _ ⟨#[sl a 0, sl a 1, sl a 2, sl a 3, sl a 4, sl a 5, sl a 6, sl a 7, sl a 8, sl a 9, sl a 10, sl a 11, sl a 12, sl a 13, sl a 14, sl a 15, sl a 16, sl a 17, sl a 18, sl a 19, sl a 20, sl a 21, sl a 22, sl a 23, sl a 24, sl a 25, sl a 26, sl a 27, sl a 28, sl a 29, sl a 30, sl a 31, sl a 32, sl a 33, sl a 34, sl a 35, sl a 36, sl a 37, sl a 38, sl a 39, sl a 40, sl a 41, sl a 42, sl a 43, sl a 44, sl a 45, sl a 46, sl a 47, sl a 48, sl a 49, sl a 50, sl a 51, sl a 52, sl a 53, sl a 54, sl a 55, sl a 56, sl a 57, sl a 58, sl a 59, sl a 60, sl a 61, sl a 62, sl a 63, sl a 64, sl a 65, sl a 66, sl a 67, sl a 68, sl a 69, sl a 70, sl a 71, sl a 72, sl a 73, sl a 74, sl a 75, sl a 76, sl a 77, sl a 78, sl a 79, sl a 80, sl a 81, sl a 82, sl a 83, sl a 84, sl a 85, sl a 86, sl a 87, sl a 88, sl a 89, sl a 90, sl a 91, sl a 92, sl a 93, sl a 94, sl a 95, sl a 96, sl a 97, sl a 98, sl a 99, sl a 100, sl a 101, sl a 102, sl a 103, sl a 104, sl a 105, sl a 106, sl a 107, sl a 108, sl a 109, sl a 110, sl a 111, sl a 112, sl a 113, sl a 114, sl a 115, sl a 116, sl a 117, sl a 118, sl a 119, sl a 120, sl a 121, sl a 122, sl a 123, sl a 124, sl a 125, sl a 126, sl a 127, sl a 128, sl a 129, sl a 130, sl a 131, sl a 132, sl a 133, sl a 134, sl a 135, sl a 136, sl a 137, sl a 138, sl a 139, sl a 140, sl a 141, sl a 142, sl a 143, sl a 144, sl a 145, sl a 146, sl a 147, sl a 148, sl a 149, sl a 150, sl a 151, sl a 152, sl a 153, sl a 154, sl a 155, sl a 156, sl a 157, sl a 158, sl a 159, sl a 160, sl a 161, sl a 162, sl a 163, sl a 164, sl a 165, sl a 166, sl a 167, sl a 168, sl a 169, sl a 170, sl a 171, sl a 172, sl a 173, sl a 174, sl a 175, sl a 176, sl a 177, sl a 178, sl a 179, sl a 180, sl a 181, sl a 182, sl a 183, sl a 184, sl a 185, sl a 186, sl a 187, sl a 188, sl a 189, sl a 190, sl a 191, sl a 192, sl a 193, sl a 194, sl a 195, sl a 196, sl a 197, sl a 198, sl a 199, sl a 200, sl a 201, sl a 202, sl a 203, sl a 204, sl a 205, sl a 206, sl a 207, sl a 208, sl a 209, sl a 210, sl a 211, sl a 212, sl a 213, sl a 214, sl a 215, sl a 216, sl a 217, sl a 218, sl a 219, sl a 220, sl a 221, sl a 222, sl a 223, sl a 224, sl a 225, sl a 226, sl a 227, sl a 228, sl a 229, sl a 230, sl a 231, sl a 232, sl a 233, sl a 234, sl a 235, sl a 236, sl a 237, sl a 238, sl a 239, sl a 240, sl a 241, sl a 242, sl a 243, sl a 244, sl a 245, sl a 246, sl a 247, sl a 248, sl a 249, sl a 250, sl a 251, sl a 252, sl a 253, sl a 254, sl a 255, sl a 256, sl a 257, sl a 258, sl a 259, sl a 260, sl a 261, sl a 262, sl a 263, sl a 264, sl a 265, sl a 266, sl a 267, sl a 268, sl a 269, sl a 270, sl a 271, sl a 272, sl a 273, sl a 274, sl a 275, sl a 276, sl a 277, sl a 278, sl a 279, sl a 280, sl a 281, sl a 282, sl a 283, sl a 284, sl a 285, sl a 286, sl a 287, sl a 288, sl a 289, sl a 290, sl a 291, sl a 292, sl a 293, sl a 294, sl a 295, sl a 296, sl a 297, sl a 298, sl a 299, sl a 300, sl a 301, sl a 302, sl a 303, sl a 304, sl a 305, sl a 306, sl a 307, sl a 308, sl a 309, sl a 310, sl a 311, sl a 312, sl a 313, sl a 314, sl a 315, sl a 316, sl a 317, sl a 318, sl a 319, sl a 320, sl a 321, sl a 322, sl a 323, sl a 324, sl a 325, sl a 326, sl a 327, sl a 328, sl a 329, sl a 330, sl a 331, sl a 332, sl a 333, sl a 334, sl a 335, sl a 336, sl a 337, sl a 338, sl a 339, sl a 340, sl a 341, sl a 342, sl a 343, sl a 344, sl a 345, sl a 346, sl a 347, sl a 348, sl a 349, sl a 350, sl a 351, sl a 352, sl a 353, sl a 354, sl a 355, sl a 356, sl a 357, sl a 358, sl a 359, sl a 360, sl a 361, sl a 362, sl a 363, sl a 364, sl a 365, sl a 366, sl a 367, sl a 368, sl a 369, sl a 370, sl a 371, sl a 372, sl a 373, sl a 374, sl a 375, sl a 376, sl a 377, sl a 378, sl a 379, sl a 380, sl a 381, sl a 382, sl a 383, sl a 384, sl a 385, sl a 386, sl a 387, sl a 388, sl a 389, sl a 390, sl a 391, sl a 392, sl a 393, sl a 394, sl a 395, sl a 396, sl a 397, sl a 398, sl a 399, sl a 400, sl a 401, sl a 402, sl a 403, sl a 404, sl a 405, sl a 406, sl a 407, sl a 408, sl a 409, sl a 410, sl a 411, sl a 412, sl a 413, sl a 414, sl a 415, sl a 416, sl a 417, sl a 418, sl a 419], []⟩ w
  rw [s0, s1]
  clear s0 s1 hf
  conv => arg 2; whnf
  go_upto_region 17 with (first
    | (go_at_call 4; refine (wnew_any G _ g0 g1).mono ?_; rw [← HS.out]; rintro e w' ⟨rfl, rfl⟩)
    | (go_at_call 6; refine (cnew_any G _).mono ?_; rintro e w' ⟨rfl, rfl⟩))
  go_upto_block 0 with (at_builtin; go_must (refine wpList_append_src _ rfl (.tmp 83) (.tmp 88) 23 rfl (w.heap.size + 1 + 1 + 1) 29 iA (.agg #[.int .u32 0, .int .u32 0, .int .u32 0]) 3 12 Try.underlying23 hi hz0 hz1 hz2 rfl (by decide) (.slice (some ⟨w.heap.size + 1 + 1 + 1, 0, none⟩) 13 13) 13 (known0.map (Value.int .u32)) rfl (HLIT.out _ _ _) _ m ((zl.take (m * 3)).map (Value.int .u32)) rfl (HSRC.out.below ((((Below.refl w.heap.size w).alloc (Nat.le_refl _) _).alloc (by simp) _).alloc (by simp; omega) _ |>.alloc (by simp; omega) _)).src (by rw [List.length_map]; exact HSRC.out.1) (ints_oneCell _ _) (by simp [maxLen]; omega) (by omega) (by simp) ?_); go_must (intro v2 w2 hown2 hgrow; have hown3 := (show w2.ownsRow (w.heap.size + 1 + 1 + 1) 29 3 v2 (13 + m) ((known0 ++ zl.take (m * 3)).map (Value.int .u32)) by rw [List.map_append]; exact hown2); obtain ⟨g, cap, hv, hg, hgl, hcap, hzl, hcells⟩ := ownedN_cells hown3 (by omega); rw [hv]; have HG2 := Lib.hid (grown3 w2 _ _ hgrow (fun k hk => by simp [Value.ownBlock] at hk; omega))); have HC2 := Lib.hid hcells; clear hown2 hgrow hown3 hcells hv hzl)
  obtain ⟨zs, hzs⟩ : ∃ zs, zs = known0 ++ zl.take (m * 3) := ⟨_, rfl⟩
  rw [← hzs] at HC2 HLEN HKB
  have hst : St w w.heap.size (w.heap.size + 1) (w.heap.size + 1 + 1) g zs S 0 S 0 0 false G 0 false G 0 false w2 := by
    obtain ⟨h1, h2, h3, h4⟩ := HG2.out
    exact ⟨h1, h2, h3, HC2.out, h4, by omega, by omega, fun _ => rfl⟩
  have HST := Lib.hid hst
  clear hst HG2 HC2 hzs
  refine wp_block ?_
  rename_i K hK
  refine loop_any hm120 (cp := cap) (by omega) HLEN.out HKB.out ⟨0, by omega, 0, S, 0, 0, G, 0, G, 0, false, false, false, ⟨rfl, rfl⟩, rfl, rfl, rfl, rfl, rfl, rfl, rfl, rfl, rfl, rfl, rfl, rfl, rfl, rfl, rfl, rfl, rfl, rfl, rfl, HST.out⟩ ?_
  clear HST HLEN HKB
  intro a' w' hl'
  show K a' w'
  refine hK a' w' ?_
  exact last_any hl'

set_option maxHeartbeats 32000000 in
set_option maxRecDepth 1000000 in
theorem main_walk (grant : Int) (lv : Value) (n : Nat) (zl : List Int) (w : World) (g0 : 0 ≤ grant) (g1 : grant ≤ 4294967295) (hl : RdN .u32 3 w lv n zl) (hlb : ∀ x ∈ zl, 0 ≤ x ∧ x ≤ 4294967295) :
    Calls Try.prog 3 #[.int .u32 grant, lv] w fun e w' => e = .returned (.bool true) ∧ Below w.heap.size w w' := by
  have HL := Lib.hid hl
  have HLB := Lib.hid hlb
  clear hl hlb
  go_enter Try.func3, Try.ntmps3
  go_upto_if 46 with fail
  rename_i K hK
  have HK := Lib.hid hK
  clear hK
  go_wp2_with fail
  · exact HK.out _ _ (from3 (grant % 20) lv n zl w (by omega) (by omega) HL.out HLB.out ⟨rfl, rfl⟩ rfl rfl)
  · exact HK.out _ _ (from3 grant lv n zl w g0 g1 HL.out HLB.out ⟨rfl, rfl⟩ rfl rfl)
end Go.Proofs.Ytohfphcgbgkmeac
