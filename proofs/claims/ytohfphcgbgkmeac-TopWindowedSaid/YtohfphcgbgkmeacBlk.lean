/- TopWindowed: a round. -/
import Derived.Test.YtohfphcgbgkmeacSw0
import Derived.Test.YtohfphcgbgkmeacSw1
import Derived.Test.YtohfphcgbgkmeacSw2
import Derived.Test.YtohfphcgbgkmeacSw3
import Derived.Test.YtohfphcgbgkmeacSw4
import Derived.Test.YtohfphcgbgkmeacSw5
import Derived.Test.YtohfphcgbgkmeacSw6
import Derived.Test.YtohfphcgbgkmeacSw7
import Derived.Test.YtohfphcgbgkmeacSw8
import Derived.Test.YtohfphcgbgkmeacSw9
import Derived.Deep.CutBlock
namespace Go.Proofs.Ytohfphcgbgkmeac
open Go.RowKit

theorem swall {w0 wr : World} {g b : Nat} {zs : List Int} {S out inn no ni count left own hers : Int} {kn drain yes : Bool} {x0 x1 x2 p q : Int} {sm : Bool} {v89 v90 v91 : Value} {a : Act} {K : Act → World → Prop} {Q0 : Exit → Act → World → Prop}
    (hf : Fr 420 a) (s5 : sl a 5 = .pointer (some ⟨w0.heap.size, 0, none⟩)) (s6 : sl a 6 = .int .u32 S) (s7 : sl a 7 = .int .u32 out) (s8 : sl a 8 = .int .u32 inn) (s9 : sl a 9 = .int .u32 no) (s10 : sl a 10 = .int .u32 ni) (s11 : sl a 11 = .bool kn) (s12 : sl a 12 = .func (.func 5) #[] #[]) (s13 : sl a 13 = .int .u32 count) (s14 : sl a 14 = .pointer (some ⟨w0.heap.size + 1, 0, none⟩)) (s15 : sl a 15 = .pointer (some ⟨w0.heap.size + 1 + 1, 0, none⟩)) (s16 : sl a 16 = .int .u32 left) (s17 : sl a 17 = .bool drain) (s18 : sl a 18 = .int .u32 hers) (s19 : sl a 19 = .bool yes) (s20 : sl a 20 = .int .u32 own) (s23 : sl a 23 = .pointer (some ⟨b, 0, none⟩)) (s24 : sl a 24 = .bool sm) (s25 : sl a 25 = .int .u32 p) (s26 : sl a 26 = .int .u32 q) (s89 : sl a 89 = v89) (s90 : sl a 90 = v90) (s91 : sl a 91 = v91) (s115 : sl a 115 = .int .u32 (x0 % 10))
    (hst : St w0 w0.heap.size (w0.heap.size + 1) (w0.heap.size + 1 + 1) g zs S out inn no ni kn count left drain own hers yes wr) (hbx : Str wr b 29 #[.int .u32 x0, .int .u32 x1, .int .u32 x2]) (hb : w0.heap.size + 1 + 1 + 1 ≤ b)
    (x00 : 0 ≤ x0) (x01 : x0 ≤ 4294967295) (x10 : 0 ≤ x1) (x11 : x1 ≤ 4294967295) (x20 : 0 ≤ x2) (x21 : x2 ≤ 4294967295) (p0 : 0 ≤ p) (p1 : p ≤ 4294967295) (q0 : 0 ≤ q) (q1 : q ≤ 4294967295)
    (hK : ∀ a' w', WI w0 g zs S v89 v90 v91 a' w' → K a' w') : Code.wp Try.prog B2 (Exit.then K Q0) a wr := by
  have hc : x0 % 10 = 0 ∨ x0 % 10 = 1 ∨ x0 % 10 = 2 ∨ x0 % 10 = 3 ∨ x0 % 10 = 4 ∨ x0 % 10 = 5 ∨ x0 % 10 = 6 ∨ x0 % 10 = 7 ∨ x0 % 10 = 8 ∨ x0 % 10 = 9 := by omega
  rcases hc with h | h | h | h | h | h | h | h | h | h
  · exact sw0 hf s5 s6 s7 s8 s9 s10 s11 s12 s13 s14 s15 s16 s17 s18 s19 s20 s23 s24 s25 s26 s89 s90 s91 s115 hst hbx hb x00 x01 x10 x11 x20 x21 p0 p1 q0 q1 h hK
  · exact sw1 hf s5 s6 s7 s8 s9 s10 s11 s12 s13 s14 s15 s16 s17 s18 s19 s20 s23 s24 s25 s26 s89 s90 s91 s115 hst hbx hb x00 x01 x10 x11 x20 x21 p0 p1 q0 q1 h hK
  · exact sw2 hf s5 s6 s7 s8 s9 s10 s11 s12 s13 s14 s15 s16 s17 s18 s19 s20 s23 s24 s25 s26 s89 s90 s91 s115 hst hbx hb x00 x01 x10 x11 x20 x21 p0 p1 q0 q1 h hK
  · exact sw3 hf s5 s6 s7 s8 s9 s10 s11 s12 s13 s14 s15 s16 s17 s18 s19 s20 s23 s24 s25 s26 s89 s90 s91 s115 hst hbx hb x00 x01 x10 x11 x20 x21 p0 p1 q0 q1 h hK
  · exact sw4 hf s5 s6 s7 s8 s9 s10 s11 s12 s13 s14 s15 s16 s17 s18 s19 s20 s23 s24 s25 s26 s89 s90 s91 s115 hst hbx hb x00 x01 x10 x11 x20 x21 p0 p1 q0 q1 h hK
  · exact sw5 hf s5 s6 s7 s8 s9 s10 s11 s12 s13 s14 s15 s16 s17 s18 s19 s20 s23 s24 s25 s26 s89 s90 s91 s115 hst hbx hb x00 x01 x10 x11 x20 x21 p0 p1 q0 q1 h hK
  · exact sw6 hf s5 s6 s7 s8 s9 s10 s11 s12 s13 s14 s15 s16 s17 s18 s19 s20 s23 s24 s25 s26 s89 s90 s91 s115 hst hbx hb x00 x01 x10 x11 x20 x21 p0 p1 q0 q1 h hK
  · exact sw7 hf s5 s6 s7 s8 s9 s10 s11 s12 s13 s14 s15 s16 s17 s18 s19 s20 s23 s24 s25 s26 s89 s90 s91 s115 hst hbx hb x00 x01 x10 x11 x20 x21 p0 p1 q0 q1 h hK
  · exact sw8 hf s5 s6 s7 s8 s9 s10 s11 s12 s13 s14 s15 s16 s17 s18 s19 s20 s23 s24 s25 s26 s89 s90 s91 s115 hst hbx hb x00 x01 x10 x11 x20 x21 p0 p1 q0 q1 h hK
  · exact sw9 hf s5 s6 s7 s8 s9 s10 s11 s12 s13 s14 s15 s16 s17 s18 s19 s20 s23 s24 s25 s26 s89 s90 s91 s115 hst hbx hb x00 x01 x10 x11 x20 x21 p0 p1 q0 q1 h hK

end Go.Proofs.Ytohfphcgbgkmeac
