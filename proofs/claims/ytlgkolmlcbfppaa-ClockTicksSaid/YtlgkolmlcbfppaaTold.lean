/- tidemarklaw2.told: it answers true, whatever the call. -/
import Derived.Test.YtlgkolmlcbfppaaTellB
import Derived.Test.YtlgkolmlcbfppaaTellC
namespace Go.Proofs.Ytlgkolmlcbfppaa
open Go.RowKit

theorem told_any (p : PS) (B lb off cnt : Nat) (kind place node win num s0 s1 s2 : Int) (w : World) (hp : p.At B lb w) (ha : p.Agree cnt) (hlb : lb < w.heap.size) (hB : B ≤ w.heap.size)
    (hc : w.cell? ⟨lb, off, none⟩ = some (.pointer (some ⟨p.cb, 0, none⟩))) (hd : w.cell? ⟨lb, off + 1, none⟩ = some (.pointer (some ⟨p.db, 0, none⟩)))
    (hn : 0 ≤ num ∧ num ≤ topW) (hs : 0 ≤ s0 ∧ s0 ≤ topW ∧ 0 ≤ s1 ∧ s1 ≤ topL ∧ 0 ≤ s2) (hlen : (cnt + 2) * 16 ≤ 140737488355328) :
    Calls Try.prog 41 #[.pointer (some ⟨lb, off, none⟩), .agg #[.int .i64 kind, .int .i64 place, .int .u32 node, .int .u64 win, .int .u64 num, .int .u64 s0, .int .u32 s1, .int .u32 s2]] w (ToldP p B lb cnt w) := by
  cases q3 : (kind == 3)
  · cases q4 : (kind == 4)
    · cases q5 : (kind == 5)
      · cases q6 : (kind == 6)
        · cases q7 : (kind == 7)
          · cases q8 : (kind == 8)
            · cases q9 : (kind == 9)
              · exact tell_other p B lb off cnt kind place node win num s0 s1 s2 w hp ha hlb hB hc hd hn hs hlen q3 q4 q5 q6 q7 q8 q9
              · exact tell_ceil p B lb off cnt kind place node win num s0 s1 s2 w hp ha hlb hB hc hd hn hs hlen q9
            · exact tell_reserve p B lb off cnt kind place node win num s0 s1 s2 w hp ha hlb hB hc hd hn hs hlen q8
          · by_cases h : s0 = topW ∨ s0 < p.ceil
            · exact tell_needno p B lb off cnt kind place node win num s0 s1 s2 w hp ha hlb hB hc hd hn hs hlen q7 h
            · exact tell_needyes p B lb off cnt kind place node win num s0 s1 s2 w hp ha hlb hB hc hd hn hs hlen q7 ⟨by omega, by omega⟩
        · exact tell_last p B lb off cnt kind place node win num s0 s1 s2 w hp ha hlb hB hc hd hn hs hlen q6
      · cases qt : (s0 == 18446744073709551615)
        · exact tell_obsok p B lb off cnt kind place node win num s0 s1 s2 w hp ha hlb hB hc hd hn hs hlen q5 qt
        · exact tell_obstop p B lb off cnt kind place node win num s0 s1 s2 w hp ha hlb hB hc hd hn hs hlen q5 qt
    · exact tell_tick p B lb off cnt kind place node win num s0 s1 s2 w hp ha hlb hB hc hd hn hs hlen q4
  · exact tell_read p B lb off cnt kind place node win num s0 s1 s2 w hp ha hlb hB hc hd hn hs hlen q3

end Go.Proofs.Ytlgkolmlcbfppaa
