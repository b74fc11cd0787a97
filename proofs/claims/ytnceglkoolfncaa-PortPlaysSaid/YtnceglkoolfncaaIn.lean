/- Words of our own, over any program: copy within and into rows of the call's own; append of zeros; a row that takes in more of its block. -/
import Derived.Test.YtnceglkoolfncaaSt
import Derived.Lib.AppendZeros
namespace Go.Pv
open Go
variable {P : Program} {w : World} {e : TypeId} {sz n : Nat} {v : Value} {xs : List Value}

/-- v[:n+m], m more than there were: what the further cells hold is not told. -/
theorem SlRow.widen (h : SlRow w e sz v n xs) {g o cap : Nat} (hv : v = .slice (some ⟨g, o, none⟩) n cap) (m : Nat) (hm : n + m ≤ cap) :
    ∃ ys, ys.length = m * sz ∧ SlRow w e sz (.slice (some ⟨g, o, none⟩) (n + m) cap) (n + m) (xs ++ ys) := by
  rcases h.2 with ⟨rfl, _⟩ | ⟨g', o', cap', cur, rfl, hb, q1, q2, q3, q4⟩
  · cases hv
  · simp only [Value.slice.injEq, Option.some.injEq, Addr.mk.injEq, true_and, and_true] at hv
    obtain ⟨⟨rfl, rfl⟩, rfl⟩ := hv
    have hle : (n + m) * sz ≤ cap' * sz := Nat.mul_le_mul_right _ hm
    rw [Nat.add_mul] at hle
    refine ⟨((cur.toList.drop o').drop (n * sz)).take (m * sz), by simp; omega, by simp [h.1, Nat.add_mul]; omega, .inr ⟨g', o', cap', cur, rfl, hb, hm, q2, q3, ?_⟩⟩
    rw [Nat.add_mul, List.take_add, q4]

/-- 'copy(row[i:], src)'. -/
theorem run_copy_sl (h : SlRow w e sz v n xs) {t u ty : TypeId} (ht : P.underlying t = some (.slice e)) {i : TypeInfo} (hi : P.info? e = some i) (hs : i.size = sz)
    {g o cap : Nat} (hv : v = .slice (some ⟨g, o, none⟩) n cap) (a dl dc : Nat) (src : Addr) (m c : Nat) (news : List Value) (hl : news.length = min m dl * sz) (hfit : a * sz + news.length ≤ n * sz)
    (hnews : ∀ j x, news[j]? = some x → w.cell? (src.add j) = some x) (h1 : ∀ x ∈ news, x.oneCell' = true) :
    ∃ w', (Builtin.copy_ #[t, u] ty #[.slice (some ⟨g, o + a * sz, none⟩) dl dc, .slice (some src) m c]).run P w = .ok (.int .i64 (min m dl : Nat)) w' ∧
      SlRow w' e sz v n (xs.take (a * sz) ++ news ++ xs.drop (a * sz + news.length)) ∧ Keeps (fun k => k = g) w w' ∧ w'.heap.size = w.heap.size := by
  subst hs
  obtain ⟨w', r1, r2, r3, r4⟩ := h.storeCells (P := P) hv (a * i.size) news hfit h1
  refine ⟨w', ?_, r2, r3, r4⟩
  have hf := run_firstCells_some (P := P) w i.size (min m dl) src m c news hl hnews
  simp [Builtin.copy_, run_underlying ht, sizeOf, typeInfo, hi, Builtin.lenOf, hf, r1, goInt]

/-- 'append(row[:s], make([]T, k)...)' that does not fit: a new row. -/
theorem run_append_zeros (t tn ty : TypeId) (i : TypeInfo) (z : Value) (kn : IntKind) (ht : P.underlying t = some (.slice e)) (htn : P.underlying tn = some (.int kn)) (hi : P.info? e = some i) (hz : i.zero = some z)
    (b : Addr) (sLen sCap : Nat) (olds : List Value) (hlo : olds.length = sLen * i.size) (holds : ∀ j v, olds[j]? = some v → w.cell? (b.add j) = some v)
    (k : Nat) (h0 : 0 < k) (hs : 0 < i.size) (hg : sCap < sLen + k) (h63 : sLen + k ≤ 9223372036854775807) (h48 : k * i.bytes ≤ 281474976710656) (hfit : Builtin.nextslicecap (sLen + k) sCap * i.bytes ≤ 281474976710656) :
    (Builtin.append_ #[t, tn] ty #[.slice (some b) sLen sCap, .int .i64 (k : Nat)]).run P w =
      .ok (.slice (some ⟨w.heap.size, 0, none⟩) (sLen + k) (grownCap w (sLen + k) sCap e))
        (w.drew.alloc (.cells (olds.toArray ++ Builtin.zeroCells z.cells k ++ Builtin.zeroCells z.cells (grownCap w (sLen + k) sCap e - (sLen + k))) e)) := by
  have hn : ¬ (sLen + k ≤ sCap) := by omega
  have hw : IntKind.i64.wrap (k : Int) = k := by rw [IntKind.wrap_i64]; omega
  have h63' : ¬ (9223372036854775807 < ((sLen : Int) + (k : Int))) := by omega
  have h48' : ¬ (281474976710656 < Builtin.nextslicecap (sLen + k) sCap * i.bytes) := by omega
  have h48i : ¬ (281474976710656 < (k : Int) * (i.bytes : Int)) := by
    rw [← Int.natCast_mul]
    omega
  have hneg : ¬ ((k : Int) < 0) := by omega
  have hns : ¬ (k * i.size = 0) := Nat.mul_ne_zero (by omega) (by omega)
  have hk0 : ¬ (k = 0) := by omega
  have hs0 : ¬ (i.size = 0) := by omega
  have hfo := run_firstCells_some (P := P) w.drew i.size sLen b sLen sCap olds hlo (by simpa using holds)
  simp [Builtin.append_, run_underlying ht, run_underlying htn, sizeOf, typeInfo, zeroValue, hi, hz, asInt, asIntOf, hw, hn, hneg, hns, hk0, hs0, h63', h48', h48i, Question.forced, hfo, newRow, grownCap]
end Go.Pv
