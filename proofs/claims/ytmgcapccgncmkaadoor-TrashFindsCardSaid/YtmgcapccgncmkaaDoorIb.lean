/- Images: Has, Users, Use, Leave, Drop, Ticks, Pull (chapter 18). -/
import Derived.Test.YtmgcapccgncmkaaDoorIa
set_option linter.unusedSimpArgs false
set_option linter.unusedVariables false
namespace Go.Proofs.YtmgcapccgncmkaaDoor.Im
open Go.RowKit Go.Pv Go.Proofs.YtmgcapccgncmkaaDoor.Tx Go.Proofs.YtmgcapccgncmkaaDoorW.PrintWords Go.Proofs.YtmgcapccgncmkaaDoorW.PrintLast

set_option maxRecDepth 10000 in
theorem has_any {w : World} {p mb : Nat} {al : IL} {tick : Int} (h : IBk w p mb al tick) (k : ByteArray) :
    Calls Tryd.prog 30 #[.pointer (some ⟨p, 0, none⟩), .string k] w fun e w' => e = .returned (.bool (thereB k al)) ∧ Below w.heap.size w w' := by
  have HT := hid (there_any h k)
  unfold imv at HT
  clear h
  go_enter Tryd.func30, Tryd.ntmps30
  go_wp2_with (go_at_call 69; go_must (with_reducible refine HT.out.mono ?_); rintro e w1 ⟨rfl, hb⟩; have HB := hid hb; clear hb)
  go_ret
  exact ⟨rfl, HB.out.alloc HB.out.size _⟩
theorem field_u (l u s : Int) (W : World) : (Instr.field 121 (.agg #[.int .i64 l, .int .i64 u, .int .i64 s]) 1).run Tryd.prog W = .ok (.int .i64 u) W := by kernel_rfl
theorem field_s (l u s : Int) (W : World) : (Instr.field 121 (.agg #[.int .i64 l, .int .i64 u, .int .i64 s]) 2).run Tryd.prog W = .ok (.int .i64 s) W := by kernel_rfl
/-- Where an image is there, it is in the map. -/
def useA (k : ByteArray) (al : IL) : IL := if thereB k al then aset k ((getI k al).1, (getI k al).2.1 + 1, (getI k al).2.2) al else al
def leaveA (k : ByteArray) (tick : Int) (al : IL) : IL := if thereB k al then (if (getI k al).2.1 = 0 then al else aset k ((getI k al).1, (getI k al).2.1 - 1, if (getI k al).2.1 - 1 = 0 then tick else (getI k al).2.2) al) else al
def dropA (k : ByteArray) (al : IL) : IL := if thereB k al then (if (getI k al).2.1 > 0 then al else adel k al) else al
def useC (k : ByteArray) (al : IL) : Int := if thereB k al then 0 else 6
def leaveC (k : ByteArray) (al : IL) : Int := if thereB k al then (if (getI k al).2.1 = 0 then 5 else 0) else 6
def dropC (k : ByteArray) (al : IL) : Int := if thereB k al then (if (getI k al).2.1 > 0 then 5 else 0) else 6
theorem IBk.step {w w1 w2 : World} {p mb : Nat} {al2 : IL} {tick : Int} (hb : Below w.heap.size w w1) (h2 : IBk w2 p mb al2 tick) (k2 : Keeps (fun i => i = mb) w1 w2) : IBk w2 p mb al2 tick ∧ Keeps (fun i => i = mb) w w2 :=
  ⟨h2, (Keeps.of_below (F := fun i => i = mb) hb).trans k2 (fun i hi => .inl hi)⟩

theorem IBk.setF {w w1 : World} {p mb : Nat} {al : IL} {tick : Int} (h : IBk w p mb al tick) (hb : Below w.heap.size w w1) (k : ByteArray) (x y z : Int) :
    ∃ w3, Hid ((Instr.mapUpdate 117 (.map (some mb)) (.string k) (.agg #[.int .i64 x, .int .i64 y, .int .i64 z])).run Tryd.prog w1 = .ok () w3) ∧ Hid (IBk w3 p mb (aset k (x, y, z) al) tick ∧ Keeps (fun i => i = mb) w w3) := by
  obtain ⟨w3, h1, h2, h3, -⟩ := (h.below hb).set k (x, y, z)
  exact ⟨w3, h1, IBk.step hb h2 h3⟩
theorem boxF {w w1 W5 : World} {x y z : Int} (hb : Below w.heap.size w w1) (hW : W5 = w1.alloc (.cells #[.int .i64 x, .int .i64 y, .int .i64 z] 121)) :
    Hid (Below w.heap.size w W5) ∧ W5.cell? ⟨w1.heap.size, 0, none⟩ = some (.int .i64 x) ∧ W5.cell? ⟨w1.heap.size, 1, none⟩ = some (.int .i64 y) ∧ W5.cell? ⟨w1.heap.size, 2, none⟩ = some (.int .i64 z) := by
  subst hW
  have hx := heap_alloc_new w1 (.cells #[.int .i64 x, .int .i64 y, .int .i64 z] 121)
  refine ⟨hb.alloc hb.size _, ?_, ?_, ?_⟩ <;> (rw [cell_of_row _ _ _ _ _ _ hx]; rfl)
set_option maxRecDepth 10000 in
set_option maxHeartbeats 1000000 in
theorem use_any {w : World} {p mb : Nat} {al : IL} {tick : Int} (h : IBk w p mb al tick) (k : ByteArray) (hu : 0 ≤ (getI k al).2.1 ∧ (getI k al).2.1 ≤ 1000000) :
    Calls Tryd.prog 64 #[.pointer (some ⟨p, 0, none⟩), .string k] w fun e w' => e = .returned (.int .i64 (useC k al)) ∧ IBk w' p mb (useA k al) tick ∧ Keeps (fun i => i = mb) w w' := by
  have HT := hid (there_any h k)
  have HP := hid h
  unfold useC useA
  generalize hF : thereB k al = F at *
  generalize hs : getI k al = s at *
  clear hF hs h
  obtain ⟨l, u, s⟩ := s
  unfold imv at HT
  simp only at HT hu ⊢
  have hw : IntKind.i64.wrap (u + 1) = u + 1 := IntWalk.i64_in _ (by omega)
  cases F with
  | false =>
    go_enter Tryd.func64, Tryd.ntmps64
    go_wp2_with (go_at_call 69; go_must (with_reducible refine HT.out.mono ?_); rintro e w1 ⟨rfl, hb⟩; have HB := hid (hb.alloc hb.size (.cells #[.int .i64 l, .int .i64 u, .int .i64 s] 121)); clear hb)
    go_ret
    exact ⟨rfl, HP.out.below HB.out, Keeps.of_below HB.out⟩
  | true =>
    rw [if_pos rfl, if_pos rfl]
    go_enter Tryd.func64, Tryd.ntmps64
    go_upto_region 5 with (go_at_call 69; go_must (with_reducible refine HT.out.mono ?_); rintro e w1 ⟨rfl, hb⟩; have HB1 := hid hb; clear hb)
    obtain ⟨W5, hW5⟩ : ∃ W5, W5 = w1.alloc (.cells #[.int .i64 l, .int .i64 (u + 1), .int .i64 s] 121) := ⟨_, rfl⟩
    obtain ⟨HB5, d0, d1, d2⟩ := boxF HB1.out hW5
    have c0 := (HP.out.below HB5.out).c0
    obtain ⟨w3, HR, H3⟩ := HP.out.setF HB5.out.drew k l (u + 1) s
    rw [← hW5]
    clear hW5
    go_still_tail 6, (by kernel_rfl)
    change wpList _ _ _ _ _ _
    go_wp2_with (at_mapUpdate; refine wl_mapUpdate rfl _ _ _ _ rfl ⟨_, HR.out, ?_⟩)
    go_ret
    exact ⟨rfl, H3.out⟩
set_option maxRecDepth 10000 in
set_option maxHeartbeats 1000000 in
theorem leave_any {w : World} {p mb : Nat} {al : IL} {tick : Int} (h : IBk w p mb al tick) (k : ByteArray) (hu : 0 ≤ (getI k al).2.1 ∧ (getI k al).2.1 ≤ 1000000) :
    Calls Tryd.prog 66 #[.pointer (some ⟨p, 0, none⟩), .string k] w fun e w' => e = .returned (.int .i64 (leaveC k al)) ∧ IBk w' p mb (leaveA k tick al) tick ∧ Keeps (fun i => i = mb) w w' := by
  have HT := hid (there_any h k)
  have HP := hid h
  unfold leaveC leaveA
  generalize hF : thereB k al = F at *
  generalize hs : getI k al = s at *
  clear hF hs h
  obtain ⟨l, u, s⟩ := s
  unfold imv at HT
  simp only at HT hu ⊢
  have hw : IntKind.i64.wrap (u - 1) = u - 1 := IntWalk.i64_in _ (by omega)
  cases F with
  | false =>
    go_enter Tryd.func66, Tryd.ntmps66
    go_wp2_with (go_at_call 69; go_must (with_reducible refine HT.out.mono ?_); rintro e w1 ⟨rfl, hb⟩; have HB := hid (hb.alloc hb.size (.cells #[.int .i64 l, .int .i64 u, .int .i64 s] 121)); clear hb)
    go_ret
    exact ⟨rfl, HP.out.below HB.out, Keeps.of_below HB.out⟩
  | true =>
    by_cases hu0 : u = 0
    · have hd : (u == 0) = true := by simpa using hu0
      rw [if_pos rfl, if_pos hu0, if_pos rfl, if_pos hu0]
      clear hu0
      go_enter Tryd.func66, Tryd.ntmps66
      go_wp2_with (go_at_call 69; go_must (with_reducible refine HT.out.mono ?_); rintro e w1 ⟨rfl, hb⟩; have HB := hid (hb.alloc hb.size (.cells #[.int .i64 l, .int .i64 u, .int .i64 s] 121)); clear hb)
      go_ret
      exact ⟨rfl, HP.out.below HB.out, Keeps.of_below HB.out⟩
    · have hd : (u == 0) = false := by simpa using hu0
      rw [if_pos rfl, if_neg hu0, if_pos rfl, if_neg hu0]
      by_cases h1 : u - 1 = 0
      · have hd1 : (u - 1 == 0) = true := by simpa using h1
        rw [if_pos h1]
        clear hu0
        have h2 : u = 1 := by omega
        subst h2
        go_enter Tryd.func66, Tryd.ntmps66
        go_upto_region 9 with (go_at_call 69; go_must (with_reducible refine HT.out.mono ?_); rintro e w1 ⟨rfl, hb⟩; have HB1 := hid hb; have c0 := ((HP.out.below hb).below ((Below.refl _ w1).alloc (Nat.le_refl _) (.cells #[.int .i64 l, .int .i64 0, .int .i64 s] 121))).c1; clear hb)
        obtain ⟨W5, hW5⟩ : ∃ W5, W5 = w1.alloc (.cells #[.int .i64 l, .int .i64 0, .int .i64 tick] 121) := ⟨_, rfl⟩
        obtain ⟨HB5, d0, d1, d2⟩ := boxF HB1.out hW5
        clear c0
        have c0 := (HP.out.below HB5.out).c0
        obtain ⟨w3, HR, H3⟩ := HP.out.setF HB5.out.drew k l 0 tick
        rw [← hW5]
        clear hW5
        go_still_tail 6, (by kernel_rfl)
        change wpList _ _ _ _ _ _
        go_wp2_with (at_mapUpdate; refine wl_mapUpdate rfl _ _ _ _ rfl ⟨_, HR.out, ?_⟩)
        go_ret
        exact ⟨rfl, H3.out⟩
      · have hd1 : (u - 1 == 0) = false := by simpa using h1
        rw [if_neg h1]
        go_enter Tryd.func66, Tryd.ntmps66
        go_upto_region 9 with (go_at_call 69; go_must (with_reducible refine HT.out.mono ?_); rintro e w1 ⟨rfl, hb⟩; have HB1 := hid hb; clear hb)
        obtain ⟨W5, hW5⟩ : ∃ W5, W5 = w1.alloc (.cells #[.int .i64 l, .int .i64 (u - 1), .int .i64 s] 121) := ⟨_, rfl⟩
        obtain ⟨HB5, d0, d1, d2⟩ := boxF HB1.out hW5
        have c0 := (HP.out.below HB5.out).c0
        obtain ⟨w3, HR, H3⟩ := HP.out.setF HB5.out.drew k l (u - 1) s
        rw [← hW5]
        clear hW5
        go_still_tail 6, (by kernel_rfl)
        change wpList _ _ _ _ _ _
        go_wp2_with (at_mapUpdate; refine wl_mapUpdate rfl _ _ _ _ rfl ⟨_, HR.out, ?_⟩)
        go_ret
        exact ⟨rfl, H3.out⟩
end Go.Proofs.YtmgcapccgncmkaaDoor.Im
