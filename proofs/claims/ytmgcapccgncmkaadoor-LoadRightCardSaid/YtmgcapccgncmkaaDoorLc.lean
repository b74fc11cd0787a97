/- Load: the script of a number (48.3), as the program makes it. -/
import Derived.Test.YtmgcapccgncmkaaDoorLb
import Derived.Lib.MinMax
set_option linter.unusedSimpArgs false
set_option linter.unusedVariables false
namespace Go.Proofs.YtmgcapccgncmkaaDoor.Ld
open Go.RowKit Go.Pv Go.Proofs.YtmgcapccgncmkaaDoor.PLoadScripts Go.Proofs.YtmgcapccgncmkaaDoorW.PrintWords Go.Proofs.YtmgcapccgncmkaaDoorW.PrintLast Go.Proofs.YtmgcapccgncmkaaDoorW.PrintMore

def sE (E : Ent) : S34 := ⟨E.1, E.2.1, E.2.2⟩
/-- k entries, and the number behind them. -/
def ents : Nat → Int → List Ent
  | 0, _ => []
  | k + 1, x => (en x).1 :: ents k (en x).2
def stx : Nat → Int → Int
  | 0, x => x
  | k + 1, x => stx k (en x).2
theorem ents_snoc : ∀ (k : Nat) (x : Int), ents (k + 1) x = ents k x ++ [(en (stx k x)).1]
  | 0, x => rfl
  | k + 1, x => by
    rw [ents, ents_snoc k (en x).2]
    simp [ents, stx]
theorem stx_snoc : ∀ (k : Nat) (x : Int), stx (k + 1) x = (en (stx k x)).2
  | 0, x => rfl
  | k + 1, x => by rw [stx, stx_snoc k (en x).2]; rfl
theorem ents_length : ∀ (k : Nat) (x : Int), (ents k x).length = k
  | 0, _ => rfl
  | k + 1, x => by simp [ents, ents_length k]
def e1 : Ent := (1, [], ⟨#[]⟩)
def many (n : Int) : Nat := (min (max n 0) 200).toNat
def scr (x n : Int) : List Ent := e1 :: ents (many n) x

theorem plain1_any (W : World) : Calls Tryd.prog 46 #[.int .i64 1, .slice none 0 0] W fun e w' => ∃ v, e = .returned (.agg #[.int .i64 1, v, .string ⟨#[]⟩]) ∧ Kd.R (Kd.int .i64) 3 w' W.heap.size (fun _ => True) v [] ∧ Below W.heap.size W w' := by
  refine (load_plain.calls 1 (fun _ => True) (.slice none 0 0) [] 1 [] ⟨#[]⟩ W W (Below.refl _ _) (Kd.R_nil _ _ _ _ _) rfl).mono ?_
  rintro e w' ⟨v, rfl, h1, h2, h3⟩
  exact ⟨v, rfl, Kd.R_mono h1 (fun _ _ => trivial), h2⟩
theorem new_any (x : Int) (w0 W : World) (hB : Below w0.heap.size w0 W) : Calls Tryd.prog 9 #[.int .u64 x] W fun e w' => ∃ g : Nat, e = .returned (.pointer (some ⟨g, 0, none⟩)) ∧ IsS98 w0 w' g x ∧ Below w0.heap.size w0 w' ∧ Below W.heap.size W w' := load_New.calls x x w0 W hB rfl
theorem entry_any (g : Nat) (x : Int) (w0 W : World) (hI : IsS98 w0 W g x) (hB : Below w0.heap.size w0 W) : Calls Tryd.prog 14 #[.pointer (some ⟨g, 0, none⟩)] W fun e w' => ∃ v, e = .returned (.agg #[.int .i64 (en x).1.1, v, .string (en x).1.2.2]) ∧ Kd.R (Kd.int .i64) 3 w' W.heap.size (fun _ => True) v (en x).1.2.1 ∧ IsS98 w0 w' g (en x).2 ∧ Below w0.heap.size w0 w' ∧ KeepBut W w' g none :=
  load_Gen_Entry.calls 2 g x _ _ _ _ w0 W hI hB (entry_eq x)
theorem gnext_any (g : Nat) (x n : Int) (w0 W : World) (hI : IsS98 w0 W g x) (hB : Below w0.heap.size w0 W) : Calls Tryd.prog 12 #[.pointer (some ⟨g, 0, none⟩), .int .i64 n] W fun e w' => e = .returned (.int .i64 (dr x n)) ∧ IsS98 w0 w' g (nx x) ∧ Below w0.heap.size w0 w' ∧ KeepBut W w' g none :=
  load_Gen_Next.calls g x n _ _ w0 W hI hB (next_eq x n)

/-- While a script is made. -/
structure SW (w W : World) (g : Nat) (x : Int) (v : Value) (es : List S34) : Prop where
  low : Below w.heap.size w W
  gen : IsS98 w W g x
  row : k34.R 34 W w.heap.size (fun _ => True) v es
section
variable {w W W1 : World} {g : Nat} {x x' : Int} {v v1 : Value} {es : List S34} {E : Ent}
theorem SW.entry (h : SW w W g x v es) (hR : Kd.R (Kd.int .i64) 3 W1 W.heap.size (fun _ => True) v1 E.2.1) (hI : IsS98 w W1 g x') (hB : Below w.heap.size w W1) (hk : KeepBut W W1 g none) :
    SW w W1 g x' v es ∧ k34.M W1 w.heap.size (fun k => some k ≠ v.ownBlock) (sE E) [.int .i64 E.1, v1, .string E.2.2] := by
  refine ⟨⟨hB, hI, Kd.R_mono (Kd.R_keep (IsS98.apart h.gen h.row (by decide)) hk (fun _ h => h.2)) (fun _ h => h.1)⟩, ?_⟩
  refine k34_mkM W1 w.heap.size _ (sE E) (Kd.R_lower (Kd.R_mono (Kd.R_bound hR) (fun k hk e => ?_)) h.low.size)
  obtain ⟨inner, ho⟩ := Kd.R_own h.row
  have := own_lt ho k e.symm
  have := hk.2.1
  omega
theorem SW.put (h : SW w W g x v es) (hr : k34.R 34 W1 w.heap.size (fun _ => True) v1 (es ++ [sE E])) (hb : Below w.heap.size w W1) (hg : W.grownBy W1 v.ownBlock) : SW w W1 g x v1 (es ++ [sE E]) :=
  ⟨hb, h.gen.grown hg (h.gen.own_ne h.row (by decide)), hr⟩
theorem SW.start (h0 : Kd.R (Kd.int .i64) 3 W w.heap.size (fun _ => True) v []) (hB : Below w.heap.size w W) (hI : IsS98 w W1 g x) (hb : Below (W.alloc (.cells #[.int .i64 1, v, .string ⟨#[]⟩] 34)).heap.size (W.alloc (.cells #[.int .i64 1, v, .string ⟨#[]⟩] 34)) W1) :
    SW w W1 g x (.slice (some ⟨W.heap.size, 0, none⟩) 1 1) [sE e1] := by
  have hA := hB.alloc hB.size (.cells #[.int .i64 1, v, .string ⟨#[]⟩] 34)
  refine ⟨hA.trans (hb.mono hA.size), hI, Kd.R_below ?_ hb⟩
  have hG := heap_alloc_new W (.cells #[.int .i64 1, v, .string ⟨#[]⟩] 34)
  have h1 := Kd.R_bound (Kd.R_below h0 ((Below.refl _ W).alloc (Nat.le_refl _) (.cells #[.int .i64 1, v, .string ⟨#[]⟩] 34)))
  clear hb hA
  revert hG h1
  generalize hV : W.alloc (.cells #[.int .i64 1, v, .string ⟨#[]⟩] 34) = V
  intro hG h1
  refine ⟨fun _ _ => trivial, [.int .i64 1, v, .string ⟨#[]⟩], ⟨rfl, .inr ⟨W.heap.size, 1, _, rfl, hB.size, hG, Nat.le_refl _, by decide, rfl, rfl⟩⟩, ?_⟩
  have hM : k34.M V w.heap.size (fun k => True ∧ some k ≠ (Value.slice (some ⟨W.heap.size, 0, none⟩) 1 1).ownBlock) (sE e1) [.int .i64 1, v, .string ⟨#[]⟩] := by
    refine k34_mkM V w.heap.size _ (sE e1) (Kd.R_mono h1 (fun k hk => ⟨trivial, fun e => ?_⟩))
    simp only [Value.ownBlock, Option.some.injEq] at e
    subst e
    obtain ⟨_, _, _, q, hq, cells, hc⟩ := hk
    rw [hG] at hc
    have h3 : q = 3 := by simpa [Kd.int, Kd.scalar] using hq
    subst h3
    exact absurd (Obj.cells.inj (Option.some.inj hc)).2.1 (by decide)
  exact (Reps.none _ _).snoc hM rfl
end

set_option maxRecDepth 10000 in
set_option maxHeartbeats 1000000 in
theorem script_any (x n : Int) (w : World) : Calls Tryd.prog 16 #[.int .u64 x, .int .i64 n] w fun e w' => ∃ v, e = .returned v ∧ k34.R 34 w' w.heap.size (fun _ => True) v ((scr x n).map sE) ∧ Below w.heap.size w w' := by
  have HP := hid (fun W => plain1_any W)
  have HN := hid (fun W hB => new_any x w W hB)
  have HE := hid (fun g x W hI hB => entry_any g x w W hI hB)
  have HW := hid (Below.refl w.heap.size w)
  go_enter Tryd.func16, Tryd.ntmps16
  go_wp2_with (first
    | (go_at_call 46; go_must (with_reducible refine (HP.out _).mono ?_); rintro e w1 ⟨v, rfl, hR, hb⟩; have HR := hid hR; have HB := hid hb; clear hR hb)
    | (go_at_call 9; go_must (with_reducible refine (HN.out _ ?hB).mono ?_); (case hB => exact HB.out.alloc HB.out.size _); rintro e w2 ⟨g, rfl, hI, hB2, hb⟩; have HS := hid (SW.start HR.out HB.out hI hb); clear hI hB2 hb HB HR))
  go_loopg [5, 14] (many n) (fun q s5 s14 wr => ∃ j : Nat, s14 = .int .i64 j ∧ q = many n - j ∧ j ≤ many n ∧ Hid (SW w wr g (stx j x) s5 ((e1 :: ents j x).map sE)))
  case atStart => exact ⟨0, rfl, by omega, by omega, HS⟩
  case round =>
    clear HS
    obtain ⟨j, rfl, rfl, hj, HS⟩ := hrel
    by_cases hjm : j < many n
    · have hlt : decide ((j : Int) < min (max n 0) 200) = true := decide_eq_true (by unfold many at hjm; omega)
      have hw : IntKind.i64.wrap ((j : Int) + 1) = ((j + 1 : Nat) : Int) := by unfold many at hjm; rw [IntWalk.i64_in _ (by omega)]; omega
      have hlen : ((e1 :: ents j x).map sE).length = j + 1 := by simp [ents_length]
      have hj2 : j < 200 := by unfold many at hjm; omega
      go_wp2_with (first
        | (go_at_call 14; go_must (with_reducible refine (HE.out _ _ _ HS.out.gen HS.out.low).mono ?_); rintro e w3 ⟨v3, rfl, hR, hI, hB, hk⟩; have HM := hid (HS.out.entry hR hI hB hk); clear hR hI hB hk HS)
        | ((with_reducible refine gate_builtin (b := .append) (xs := #[.tmp 16, .tmp 19]) rfl ?_); at_builtin; go_must (refine Kd.R_append k34 (w0 := w) w.heap.size rfl (.tmp 16) (.tmp 19) 38 34 (.agg #[(.int .i64 0), (.slice none 0 0), (.string ⟨#[]⟩)]) 48 rfl Tryd.underlying38 info34 rfl (by decide) (by omega) u5 ((e1 :: ents j x).map sE) (sE (en (stx j x)).1) [.int .i64 (en (stx j x)).1.1, v3, .string (en (stx j x)).1.2.2] (fun _ => True) (fun k => some k ≠ u5.ownBlock) rfl rfl ?aP (fun k hk => ⟨trivial, hk⟩) (fun _ _ => trivial) ?aO ?aB ?aS ?aL ?_); (case aP => exact HM.out.2); (case aO => exact HM.out.1.row); (case aB => exact HM.out.1.low); (case aS => exact HM.out.1.low.size); (case aL => rw [hlen]; omega); intro v4 w4 ho hb hg hat; have HS := hid (HM.out.1.put ho hb hg); clear ho hb hg hat HM))
      go_roundg (many n - (j + 1))
      case measure => omega
      case rel =>
        refine ⟨j + 1, by simp, rfl, by omega, ?_⟩
        have e2 : (e1 :: ents (j + 1) x).map sE = (e1 :: ents j x).map sE ++ [sE (en (stx j x)).1] := by rw [ents_snoc]; simp
        rw [e2, stx_snoc]
        exact HS
    · have hlt : decide ((j : Int) < min (max n 0) 200) = false := decide_eq_false (by unfold many at hjm; omega)
      have hjj : j = many n := by omega
      subst hjj
      go_wp2_with fail
      go_ret
      exact ⟨_, rfl, HS.out.row, HS.out.low⟩
end Go.Proofs.YtmgcapccgncmkaaDoor.Ld
