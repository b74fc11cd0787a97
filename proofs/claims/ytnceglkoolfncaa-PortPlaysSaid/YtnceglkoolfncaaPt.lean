/- The table of ports: printed contracts beside the table's; SpoilInts; Held told by what it leaves alone. -/
import Derived.Test.YtnceglkoolfncaaPp
import Derived.Test.YtnceglkoolfncaaPs
import Derived.Test.YtnceglkoolfncaaPm
namespace Go.Proofs.Ytnceglkoolfncaa.Po
open Go.RowKit Go.Pv Go.Proofs.Ytnceglkoolfncaa.PPortPlays Go.Proofs.YtnceglkoolfncaaW.PrintWords

theorem C_of_rd {w : World} {A : Option Addr} {n c : Nat} {ps : List Int} (h : Rd w 1 encI (.slice A n c) ps) (hl : ps.length ≤ 100000) : Kd.C (Kd.int .i64) w A ps.length ps := by
  refine ⟨rfl, by omega, fun h0 => ?_⟩
  rcases h with ⟨rfl, _⟩ | ⟨b, o, cap, hv, hb, hc⟩
  · simp at h0
  · simp only [Value.slice.injEq] at hv
    obtain ⟨rfl, _, _⟩ := hv
    refine ⟨_, rfl, fun j p hp => ⟨[.int .i64 p], rfl, rfl, fun i u hu => ?_⟩⟩
    rw [Addr.add_lit]
    have := hc j p hp i u hu
    rw [← Nat.add_assoc]
    exact this

theorem C_of_sl {w : World} {A : Option Addr} {n c : Nat} {l : List Int} (h : SlOf w 3 1 encI (.slice A n c) l) (hl : l.length ≤ 100000) : Kd.C (Kd.int .i64) w A l.length l := by
  refine ⟨rfl, by omega, fun h0 => ?_⟩
  rcases SlRow.form h with ⟨h1, h2⟩ | ⟨g, o, cap, h1⟩
  · omega
  · simp only [Value.slice.injEq] at h1
    obtain ⟨rfl, rfl, rfl⟩ := h1
    refine ⟨_, rfl, fun j p hp => ⟨[.int .i64 p], rfl, rfl, fun i u hu => ?_⟩⟩
    cases i with
    | succ i => simp at hu
    | zero =>
      simp at hu; subst hu
      have e : j * (Kd.int .i64).sz + 0 = j := by show j * 1 + 0 = j; omega
      rw [e, Addr.add_lit]
      exact SlRow.cells h rfl j (.int .i64 p) (by rw [flatI, List.getElem?_map, hp]; rfl)

theorem sl_cap {w : World} {e : TypeId} {sz : Nat} {A : Option Addr} {n m c : Nat} {xs : List Value} (h : SlRow w e sz (.slice A n c) m xs) : n ≤ c := by
  rcases h.2 with ⟨h1, _⟩ | ⟨g, o, cap, cur, h1, _, h2, _⟩
  · simp only [Value.slice.injEq] at h1; omega
  · simp only [Value.slice.injEq] at h1; omega

/-- The cells of the document's list. -/
theorem cells_of_C {w : World} {A : Option Addr} {hs : List Hd} (h : Kd.C k75 w A (hs.map tS).length (hs.map tS)) : ∀ k (hk : k < hs.length), ∃ b o, A = some ⟨b, o, none⟩ ∧ b < w.heap.size ∧ w.cell? ⟨b, o + k * 2, none⟩ = some (.int .i64 hs[k].1) ∧ w.cell? ⟨b, o + k * 2 + 1, none⟩ = some (.int .i64 hs[k].2) := by
  intro k hk
  obtain ⟨ad, hA, h1, h2⟩ := at_T75 h (k : Int) (by omega) (by simp; omega)
  rw [rd75 hk] at h1 h2
  simp only [Int.toNat_natCast] at h1 h2
  have hsp : ad.spot = none := by
    obtain ⟨ad0, hA0, h10, _⟩ := at_T75 h 0 (by omega) (by simp; omega)
    have e0 : ad0 = ad := by rw [hA] at hA0; exact (Option.some.inj hA0).symm
    subst e0
    simp only [Int.toNat_zero, Nat.zero_mul, Addr.add, if_true] at h10
    unfold World.cell? at h10
    split at h10
    · cases hs : ad0.spot with
      | none => rfl
      | some _ => simp [hs] at h10
    · cases h10
  obtain ⟨b, o, s⟩ := ad
  simp only at hsp
  subst hsp
  simp only [Addr.add_lit] at h1 h2
  exact ⟨b, o, hA, World.block_lt_of_cell? w _ h1, h1, h2⟩

theorem held_low {w : World} {p : Nat} {v : Value} {hs : List Hd} (h : TabAt w p v hs) (hl : hs.length ≤ 40000) (o : Int) :
    Calls Try.prog 39 #[.pointer (some ⟨p, 0, none⟩), .int .i64 o] w fun e w' => ∃ a c, e = .returned (.slice a (mine o hs).length c) ∧ SlOf w' 3 1 encI (.slice a (mine o hs).length c) (mine o hs) ∧ (∀ g, Value.ownBlock (.slice a (mine o hs).length c) = some g → w.heap.size ≤ g) ∧ Below w.heap.size w w' := by
  refine (callsIn_wide.1 (held_in Fence.wide 3 trivial trivial trivial rfl (by omega) p v hs (by omega) o w h)).mono fun e w' ⟨v', he, ho, _, hb⟩ => ?_
  have hfl := flatI (mine o hs)
  rcases ho.2 with ⟨rfl, hn⟩ | ⟨g, cap, cur, rfl, hg, hgb, q1, q2, q3, q4⟩
  · refine ⟨none, 0, by rw [he, hn], ?_, by simp [Value.ownBlock], hb⟩
    unfold SlOf
    rw [hfl]
    exact ⟨ho.1, .inl ⟨by rw [hn], hn⟩⟩
  · refine ⟨_, cap, he, ?_, by simp [Value.ownBlock]; omega, hb⟩
    unfold SlOf
    rw [hfl]
    exact ⟨ho.1, .inr ⟨g, 0, cap, cur, rfl, hgb, q1, q2, by omega, by rw [List.drop_zero]; exact q4⟩⟩

set_option maxRecDepth 10000 in
/-- SpoilInts writes over the row alone. -/
theorem spoil_any {w : World} {A : Option Addr} {n c : Nat} {xs : List Value} (h : SlRow w 3 1 (.slice A n c) n xs) (hn : n ≤ 100000) (B : Nat) (hB : ∀ g, Value.ownBlock (.slice A n c) = some g → B ≤ g) (hBw : B ≤ w.heap.size) :
    Calls Try.prog 41 #[.slice A n c] w fun e w' => (∃ v, e = .returned v) ∧ Below B w w' := by
  have H := hid h
  have HB := hid hB
  clear h hB
  go_enter Try.func41, Try.ntmps41
  go_wp2
  go_loopg [5] n (fun g iv wr => ∃ i : Nat, g = n - i ∧ i ≤ n ∧ iv = .int .i64 i ∧ Hid (Below B w wr ∧ ∃ ys, SlRow wr 3 1 (.slice A n c) n ys))
  case atStart => exact ⟨0, rfl, by omega, rfl, ⟨Below.refl _ _, _, H.out⟩⟩
  case round =>
    obtain ⟨i, rfl, hi, rfl, hI⟩ := hrel
    by_cases hin : i < n
    · obtain ⟨hb, ys, hs⟩ := hI.out
      have hb' := hid hb
      rcases SlRow.form hs with ⟨h1, h2⟩ | ⟨g, o, cap, h1⟩
      · omega
      · simp only [Value.slice.injEq] at h1
        obtain ⟨rfl, _, rfl⟩ := h1
        have hs2 := SlRow.setCell hs rfl i (.int .i64 (-99)) (by omega)
        obtain ⟨cur, hcur⟩ := SlRow.elem hs (g := g) rfl
        have hy : i < ys.length := by have := hs.1; omega
        have c0 := SlRow.cells hs rfl i _ (List.getElem?_eq_getElem hy)
        have f0 : wr.frozen? ⟨g, o + i, none⟩ = false := by simp [World.frozen?, hcur]
        have HS2 := hid hs2
        clear hs hs2 hI hcur hb
        go_wp2
        go_roundg (n - (i + 1))
        case measure => omega
        case rel => exact ⟨i + 1, rfl, by omega, by go_num, ⟨hb'.out.setCell (p := ⟨g, o + i, none⟩) (HB.out g rfl) _, _, HS2.out⟩⟩
    · have HW := hid hI.out.1
      clear hI
      go_wp2
      go_end0
      exact ⟨⟨_, rfl⟩, HW.out⟩
end Go.Proofs.Ytnceglkoolfncaa.Po
