/- TopWindowed's switch, case 3. -/
import Derived.Test.YtohfphcgbgkmeacSw
import Derived.Deep.LoopGhost
import Derived.Deep.DeepMust
import Derived.Deep.RegionWith
namespace Go.Proofs.Ytohfphcgbgkmeac
open Go.RowKit

set_option maxHeartbeats 32000000 in
set_option maxRecDepth 1000000 in
theorem sw3 {w0 wr : World} {g b : Nat} {zs : List Int} {S out inn no ni count left own hers : Int} {kn drain yes : Bool} {x0 x1 x2 p q : Int} {sm : Bool} {v89 v90 v91 : Value} {a : Act} {K : Act → World → Prop} {Q0 : Exit → Act → World → Prop}
    (hf : Fr 420 a) (s5 : sl a 5 = .pointer (some ⟨w0.heap.size, 0, none⟩)) (s6 : sl a 6 = .int .u32 S) (s7 : sl a 7 = .int .u32 out) (s8 : sl a 8 = .int .u32 inn) (s9 : sl a 9 = .int .u32 no) (s10 : sl a 10 = .int .u32 ni) (s11 : sl a 11 = .bool kn) (s12 : sl a 12 = .func (.func 5) #[] #[]) (s13 : sl a 13 = .int .u32 count) (s14 : sl a 14 = .pointer (some ⟨w0.heap.size + 1, 0, none⟩)) (s15 : sl a 15 = .pointer (some ⟨w0.heap.size + 1 + 1, 0, none⟩)) (s16 : sl a 16 = .int .u32 left) (s17 : sl a 17 = .bool drain) (s18 : sl a 18 = .int .u32 hers) (s19 : sl a 19 = .bool yes) (s20 : sl a 20 = .int .u32 own) (s23 : sl a 23 = .pointer (some ⟨b, 0, none⟩)) (s24 : sl a 24 = .bool sm) (s25 : sl a 25 = .int .u32 p) (s26 : sl a 26 = .int .u32 q) (s89 : sl a 89 = v89) (s90 : sl a 90 = v90) (s91 : sl a 91 = v91) (s115 : sl a 115 = .int .u32 (x0 % 10))
    (hst : St w0 w0.heap.size (w0.heap.size + 1) (w0.heap.size + 1 + 1) g zs S out inn no ni kn count left drain own hers yes wr) (hbx : Str wr b 29 #[.int .u32 x0, .int .u32 x1, .int .u32 x2]) (hb : w0.heap.size + 1 + 1 + 1 ≤ b)
    (x00 : 0 ≤ x0) (x01 : x0 ≤ 4294967295) (x10 : 0 ≤ x1) (x11 : x1 ≤ 4294967295) (x20 : 0 ≤ x2) (x21 : x2 ≤ 4294967295) (p0 : 0 ≤ p) (p1 : p ≤ 4294967295) (q0 : 0 ≤ q) (q1 : q ≤ 4294967295)
    (hk : x0 % 10 = 3)
    (hK : ∀ a' w', WI w0 g zs S v89 v90 v91 a' w' → K a' w') : Code.wp Try.prog B2 (Exit.then K Q0) a wr := by
  refine wp_cut (WI w0 g zs S v89 v90 v91) hK ?_
  intro J K' hJ hK'
  refine hf.wp ?_
  show Code.wp _ B2 _ ⟨#[sl a 0, sl a 1, sl a 2, sl a 3, sl a 4, sl a 5, sl a 6, sl a 7, sl a 8, sl a 9, sl a 10, sl a 11, sl a 12, sl a 13, sl a 14, sl a 15, sl a 16, sl a 17, sl a 18, sl a 19, sl a 20, sl a 21, sl a 22, sl a 23, sl a 24, sl a 25, sl a 26, sl a 27, sl a 28, sl a 29, sl a 30, sl a 31, sl a 32, sl a 33, sl a 34, sl a 35, sl a 36, sl a 37, sl a 38, sl a 39, sl a 40, sl a 41, sl a 42, sl a 43, sl a 44, sl a 45, sl a 46, sl a 47, sl a 48, sl a 49, sl a 50, sl a 51, sl a 52, sl a 53, sl a 54, sl a 55, sl a 56, sl a 57, sl a 58, sl a 59, sl a 60, sl a 61, sl a 62, sl a 63, sl a 64, sl a 65, sl a 66, sl a 67, sl a 68, sl a 69, sl a 70, sl a 71, sl a 72, sl a 73, sl a 74, sl a 75, sl a 76, sl a 77, sl a 78, sl a 79, sl a 80, sl a 81, sl a 82, sl a 83, sl a 84, sl a 85, sl a 86, sl a 87, sl a 88, sl a 89, sl a 90, sl a 91, sl a 92, sl a 93, sl a 94, sl a 95, sl a 96, sl a 97, sl a 98, sl a 99, sl a 100, sl a 101, sl a 102, sl a 103, sl a 104, sl a 105, sl a 106, sl a 107, sl a 108, sl a 109, sl a 110, sl a 111, sl a 112, sl a 113, sl a 114, sl a 115, sl a 116, sl a 117, sl a 118, sl a 119, sl a 120, sl a 121, sl a 122, sl a 123, sl a 124, sl a 125, sl a 126, sl a 127, sl a 128, sl a 129, sl a 130, sl a 131, sl a 132, sl a 133, sl a 134, sl a 135, sl a 136, sl a 137, sl a 138, sl a 139, sl a 140, sl a 141, sl a 142, sl a 143, sl a 144, sl a 145, sl a 146, sl a 147, sl a 148, sl a 149, sl a 150, sl a 151, sl a 152, sl a 153, sl a 154, sl a 155, sl a 156, sl a 157, sl a 158, sl a 159, sl a 160, sl a 161, sl a 162, sl a 163, sl a 164, sl a 165, sl a 166, sl a 167, sl a 168, sl a 169, sl a 170, sl a 171, sl a 172, sl a 173, sl a 174, sl a 175, sl a 176, sl a 177, sl a 178, sl a 179, sl a 180, sl a 181, sl a 182, sl a 183, sl a 184, sl a 185, sl a 186, sl a 187, sl a 188, sl a 189, sl a 190, sl a 191, sl a 192, sl a 193, sl a 194, sl a 195, sl a 196, sl a 197, sl a 198, sl a 199, sl a 200, sl a 201, sl a 202, sl a 203, sl a 204, sl a 205, sl a 206, sl a 207, sl a 208, sl a 209, sl a 210, sl a 211, sl a 212, sl a 213, sl a 214, sl a 215, sl a 216, sl a 217, sl a 218, sl a 219, sl a 220, sl a 221, sl a 222, sl a 223, sl a 224, sl a 225, sl a 226, sl a 227, sl a 228, sl a 229, sl a 230, sl a 231, sl a 232, sl a 233, sl a 234, sl a 235, sl a 236, sl a 237, sl a 238, sl a 239, sl a 240, sl a 241, sl a 242, sl a 243, sl a 244, sl a 245, sl a 246, sl a 247, sl a 248, sl a 249, sl a 250, sl a 251, sl a 252, sl a 253, sl a 254, sl a 255, sl a 256, sl a 257, sl a 258, sl a 259, sl a 260, sl a 261, sl a 262, sl a 263, sl a 264, sl a 265, sl a 266, sl a 267, sl a 268, sl a 269, sl a 270, sl a 271, sl a 272, sl a 273, sl a 274, sl a 275, sl a 276, sl a 277, sl a 278, sl a 279, sl a 280, sl a 281, sl a 282, sl a 283, sl a 284, sl a 285, sl a 286, sl a 287, sl a 288, sl a 289, sl a 290, sl a 291, sl a 292, sl a 293, sl a 294, sl a 295, sl a 296, sl a 297, sl a 298, sl a 299, sl a 300, sl a 301, sl a 302, sl a 303, sl a 304, sl a 305, sl a 306, sl a 307, sl a 308, sl a 309, sl a 310, sl a 311, sl a 312, sl a 313, sl a 314, sl a 315, sl a 316, sl a 317, sl a 318, sl a 319, sl a 320, sl a 321, sl a 322, sl a 323, sl a 324, sl a 325, sl a 326, sl a 327, sl a 328, sl a 329, sl a 330, sl a 331, sl a 332, sl a 333, sl a 334, sl a 335, sl a 336, sl a 337, sl a 338, sl a 339, sl a 340, sl a 341, sl a 342, sl a 343, sl a 344, sl a 345, sl a 346, sl a 347, sl a 348, sl a 349, sl a 350, sl a 351, sl a 352, sl a 353, sl a 354, sl a 355, sl a 356, sl a 357, sl a 358, sl a 359, sl a 360, sl a 361, sl a 362, sl a 363, sl a 364, sl a 365, sl a 366, sl a 367, sl a 368, sl a 369, sl a 370, sl a 371, sl a 372, sl a 373, sl a 374, sl a 375, sl a 376, sl a 377, sl a 378, sl a 379, sl a 380, sl a 381, sl a 382, sl a 383, sl a 384, sl a 385, sl a 386, sl a 387, sl a 388, sl a 389, sl a 390, sl a 391, sl a 392, sl a 393, sl a 394, sl a 395, sl a 396, sl a 397, sl a 398, sl a 399, sl a 400, sl a 401, sl a 402, sl a 403, sl a 404, sl a 405, sl a 406, sl a 407, sl a 408, sl a 409, sl a 410, sl a 411, sl a 412, sl a 413, sl a 414, sl a 415, sl a 416, sl a 417, sl a 418, sl a 419], []⟩ wr
  rw [s5, s6, s7, s8, s9, s10, s11, s12, s13, s14, s15, s16, s17, s18, s19, s20, s23, s24, s25, s26, s89, s90, s91, s115]
  clear s5 s6 s7 s8 s9 s10 s11 s12 s13 s14 s15 s16 s17 s18 s19 s20 s23 s24 s25 s26 s89 s90 s91 s115 hf hK
  have HW := Lib.hid hst
  have HB := Lib.hid hbx
  clear hst hbx
  rw [hk]
  conv => arg 2; whnf
  have hc0 : wr.cell? ⟨b, 0, none⟩ = some (.int .u32 x0) := HB.out.cell 0 rfl
  have hc1 : wr.cell? ⟨b, 1, none⟩ = some (.int .u32 x1) := HB.out.cell 1 rfl
  have hc2 : wr.cell? ⟨b, 2, none⟩ = some (.int .u32 x2) := HB.out.cell 2 rfl
  by_cases hi : inn = 0
  · subst hi
    go_wp2_with (go_at_call 10; refine (got_no HW.out.win (.inl rfl)).mono ?_; rintro e w' ⟨rfl, rfl⟩)
    (refine Met.intro ?_; go_step; unfold WI; refine ⟨_, _, _, _, _, _, _, _, _, _, _, ⟨rfl, rfl⟩, rfl, rfl, rfl, rfl, rfl, rfl, rfl, rfl, rfl, rfl, rfl, rfl, rfl, rfl, rfl, rfl, rfl, rfl, rfl, ?rel⟩)
    case rel => exact HW.out
  · have hb1 : 0 < inn ∧ inn ≤ 256 := by have := HW.out.bnd; omega
    obtain ⟨hi0, hi1⟩ := hb1
    cases kn
    · go_wp2_with (go_at_call 10; refine (got_no HW.out.win (.inr rfl)).mono ?_; rintro e w' ⟨rfl, rfl⟩)
      (refine Met.intro ?_; go_step; unfold WI; refine ⟨_, _, _, _, _, _, _, _, _, _, _, ⟨rfl, rfl⟩, rfl, rfl, rfl, rfl, rfl, rfl, rfl, rfl, rfl, rfl, rfl, rfl, rfl, rfl, rfl, rfl, rfl, rfl, rfl, ?rel⟩)
      case rel => exact HW.out
    · go_wp2_with (go_at_call 10; refine (got_yes HW.out.win hi0 hi1).mono ?_; rintro e w' ⟨rfl, hw⟩; have HX := Lib.hid hw; clear hw)
      (refine Met.intro ?_; go_step; unfold WI; refine ⟨_, _, _, _, _, _, _, _, _, _, _, ⟨rfl, rfl⟩, rfl, rfl, rfl, rfl, rfl, rfl, rfl, rfl, rfl, rfl, rfl, rfl, rfl, rfl, rfl, rfl, rfl, rfl, rfl, ?rel⟩)
      case rel => exact HW.out.wroteW HX.out (by have := HW.out.bnd; omega) (fun h => by cases h)
end Go.Proofs.Ytohfphcgbgkmeac
