/- Images' names (3.4, 3.5): repositories, tags, parts. -/
import Derived.Test.YtmgcapccgncmkaaDoorTa
import Derived.Shelf.Strings.Cut
set_option linter.unusedSimpArgs false
set_option linter.unusedVariables false
namespace Go.Proofs
open Go.Shelf
def Tryd.laysCut_ren : Go.Shelf.Ren := ⟨fun | 145 => 124 | 220 => 139 | 219 => 120 | 217 => 135 | 225 => 136 | 224 => 137 | 267 => 138 | 266 => 154 | 314 => 155 | n => n, fun | 9 => 9 | 4 => 4 | 59 => 172 | 3 => 3 | 5 => 5 | 46 => 102 | 146 => 207 | 51 => 201 | n => n, fun | 1 => 1 | n => n⟩
theorem Tryd.laysCut : Go.Proofs.Lays.n145 Tryd.prog Tryd.laysCut_ren := {
  mixed := by kernel_rfl,
  f145 := Tryd.func124.trans (congrArg some (by kernel_rfl)),
  f217 := Tryd.func135.trans (congrArg some (by kernel_rfl)),
  f219 := Tryd.func120.trans (congrArg some (by kernel_rfl)),
  f220 := Tryd.func139.trans (congrArg some (by kernel_rfl)),
  f224 := Tryd.func137.trans (congrArg some (by kernel_rfl)),
  f225 := Tryd.func136.trans (congrArg some (by kernel_rfl)),
  f266 := Tryd.func154.trans (congrArg some (by kernel_rfl)),
  f267 := Tryd.func138.trans (congrArg some (by kernel_rfl)),
  f314 := Tryd.func155.trans (congrArg some (by kernel_rfl)),
  t3 := Tryd.underlying3,
  a3 := Tryd.isAgg3,
  z3 := Tryd.sizeOf3,
  v3 := Tryd.zeroValue3,
  t4 := Tryd.underlying4,
  a4 := Tryd.isAgg4,
  z4 := Tryd.sizeOf4,
  v4 := Tryd.zeroValue4,
  t5 := Tryd.underlying5,
  a5 := Tryd.isAgg5,
  z5 := Tryd.sizeOf5,
  v5 := Tryd.zeroValue5,
  t9 := Tryd.underlying9,
  a9 := Tryd.isAgg9,
  z9 := Tryd.sizeOf9,
  v9 := Tryd.zeroValue9,
  t46 := Tryd.underlying102,
  a46 := Tryd.isAgg102,
  z46 := Tryd.sizeOf102,
  v46 := Tryd.zeroValue102,
  t51 := Tryd.underlying201,
  a51 := Tryd.isAgg201,
  z51 := Tryd.sizeOf201,
  v51 := Tryd.zeroValue201,
  t59 := Tryd.underlying172,
  a59 := Tryd.isAgg172,
  z59 := Tryd.sizeOf172,
  v59 := Tryd.zeroValue172,
  t146 := Tryd.underlying207,
  a146 := Tryd.isAgg207,
  z146 := Tryd.sizeOf207,
  v146 := Tryd.zeroValue207,
  g1 := by kernel_rfl }


end Go.Proofs
namespace Go.Proofs.YtmgcapccgncmkaaDoor.Tx
open Go.RowKit Go.Pv Go.Proofs.YtmgcapccgncmkaaDoorW.PrintWords Go.Proofs

/-- A text cut at a byte. -/
def cutA (s : ByteArray) (c : UInt8) : ByteArray := ⟨(Lib.cut s.data.toList [c]).1.toArray⟩
def cutB (s : ByteArray) (c : UInt8) : ByteArray := ⟨(Lib.cut s.data.toList [c]).2.1.toArray⟩
def cutF (s : ByteArray) (c : UInt8) : Bool := (Lib.cut s.data.toList [c]).2.2
theorem cutA_size (s : ByteArray) (c : UInt8) : (cutA s c).size ≤ s.size := by
  show (Lib.cut s.data.toList [c]).1.length ≤ s.data.toList.length
  unfold Lib.cut
  split
  · rw [List.length_take]; exact Nat.min_le_right _ _
  · exact Nat.le_refl _
theorem cutB_size (s : ByteArray) (c : UInt8) : (cutB s c).size ≤ s.size := by
  show (Lib.cut s.data.toList [c]).2.1.length ≤ s.data.toList.length
  unfold Lib.cut
  split
  · simp
  · simp
theorem cut_any (s : ByteArray) (c : UInt8) (hs : s.size < 4294967281) (w : World) (hG : Gm w) :
    Calls Tryd.prog 124 #[.string s, .string ⟨#[c]⟩] w fun e w' => e = .returned (.tuple #[.string (cutA s c), .string (cutB s c), .bool (cutF s c)]) ∧ Below w.heap.size w w' := by
  obtain ⟨m, hm⟩ := hG.len
  refine (Any.strings_Cut Tryd.laysCut s ⟨#[c]⟩ m w hs hm).mono ?_
  rintro e w' ⟨rfl, n, rfl⟩
  exact ⟨rfl, pw_below_drewN (Below.refl _ _) n⟩
/-- Names with a stroke between each two, so many at most. -/
def namesB : Nat → ByteArray → Bool
  | 0, _ => false
  | k + 1, s => nameB (cutA s 47) && (!(cutF s 47) || namesB k (cutB s 47))
set_option maxRecDepth 10000 in
theorem names_any (n : Nat) (s : ByteArray) (hs : s.size < 4294967281) (hn : n ≤ 1000) (w : World) (hG : Gm w) :
    Calls Tryd.prog 140 #[.string s, .int .i64 (n : Int)] w fun e w' => e = .returned (.bool (namesB n s)) ∧ Below w.heap.size w w' := by
  have HG0 := hid hG
  have HW := hid (Below.refl w.heap.size w)
  have HC := hid cut_any
  have HN := hid name_any
  clear hG
  go_enter Tryd.func140, Tryd.ntmps140
  go_wp2_with fail
  go_loopg [0, 9] n (fun q s0 s9 wr => ∃ (j : Nat) (t : ByteArray), s0 = .string t ∧ s9 = .int .i64 (j : Int) ∧ q = n - j ∧ j ≤ n ∧ t.size < 4294967281 ∧ Hid (namesB (n - j) t = namesB n s) ∧ Hid (Below w.heap.size w wr))
  case atStart => exact ⟨0, s, rfl, rfl, by omega, by omega, hs, rfl, HW⟩
  case round =>
    clear HW hs
    obtain ⟨j, t, rfl, rfl, rfl, hj, ht, HE, HW⟩ := hrel
    by_cases hjn : j < n
    · have b1 : decide ((j : Int) < (n : Int)) = true := decide_eq_true (by omega)
      have hw : IntKind.i64.wrap ((j : Int) + 1) = ((j + 1 : Nat) : Int) := by rw [IntWalk.i64_in _ (by omega)]; omega
      have hst : namesB (n - j) t = (nameB (cutA t 47) && (!(cutF t 47) || namesB (n - (j + 1)) (cutB t 47))) := by
        obtain ⟨k, hk⟩ : ∃ k, n - j = k + 1 := ⟨n - j - 1, by omega⟩
        have hk2 : n - (j + 1) = k := by omega
        rw [hk, hk2, namesB]
      have HST := hid (hst.symm.trans HE.out)
      have hcs := cutB_size t 47
      have HC1 := hid (HC.out t 47 ht)
      have HN1 := hid (HN.out (cutA t 47))
      clear hst
      generalize cutA t 47 = A at HST HC1 HN1
      generalize cutB t 47 = B at HST HC1 hcs
      generalize cutF t 47 = F at HST HC1
      generalize nameB A = N at HST HN1
      cases N with
      | false =>
        have HR : Hid (namesB n s = false) := hid (by have h9 := HST.out; simpa using h9.symm)
        clear HST HE
        go_wp2_with (first
          | (go_at_call 124; go_must (with_reducible refine (HC1.out _ (HG0.out.later HW.out)).mono ?_); rintro e w1 ⟨rfl, hb⟩; have HB1 := hid (HW.out.trans (hb.mono HW.out.size)); clear hb)
          | (go_at_call 86; go_must (with_reducible refine (HN1.out _ (HG0.out.later HB1.out)).mono ?_); rintro e w2 ⟨rfl, rfl⟩))
        go_ret
        exact ⟨by rw [HR.out]; rfl, HB1.out⟩
      | true =>
        cases F with
        | false =>
          have HR : Hid (namesB n s = true) := hid (by have h9 := HST.out; simpa using h9.symm)
          clear HST HE
          go_wp2_with (first
            | (go_at_call 124; go_must (with_reducible refine (HC1.out _ (HG0.out.later HW.out)).mono ?_); rintro e w1 ⟨rfl, hb⟩; have HB1 := hid (HW.out.trans (hb.mono HW.out.size)); clear hb)
            | (go_at_call 86; go_must (with_reducible refine (HN1.out _ (HG0.out.later HB1.out)).mono ?_); rintro e w2 ⟨rfl, rfl⟩))
          go_ret
          exact ⟨by rw [HR.out]; rfl, HB1.out⟩
        | true =>
          have HR2 : Hid (namesB (n - (j + 1)) B = namesB n s) := hid (by have h9 := HST.out; simpa using h9)
          clear HST HE
          go_wp2_with (first
            | (go_at_call 124; go_must (with_reducible refine (HC1.out _ (HG0.out.later HW.out)).mono ?_); rintro e w1 ⟨rfl, hb⟩; have HB1 := hid (HW.out.trans (hb.mono HW.out.size)); clear hb)
            | (go_at_call 86; go_must (with_reducible refine (HN1.out _ (HG0.out.later HB1.out)).mono ?_); rintro e w2 ⟨rfl, rfl⟩))
          go_roundg (n - (j + 1))
          case measure => omega
          case rel => exact ⟨j + 1, B, rfl, by simp, rfl, by omega, by omega, HR2, HB1⟩
    · have b1 : decide ((j : Int) < (n : Int)) = false := decide_eq_false (by omega)
      have hjj : n - j = 0 := by omega
      have HR : Hid (namesB n s = false) := hid (by have h9 := HE.out; rw [hjj, namesB] at h9; exact h9.symm)
      clear HE
      go_wp2_with fail
      go_ret
      exact ⟨by rw [HR.out]; rfl, HW.out⟩

def repoB (s : ByteArray) : Bool := decide (s.size ≤ 24) && namesB 24 s
def tagB (s : ByteArray) : Bool := decide (s.size ≠ 0) && (decide (s.size ≤ 8) && allB 2 s)
def partsB (s : ByteArray) : Bool := cutF s 58 && (repoB (cutA s 58) && tagB (cutB s 58))
set_option maxRecDepth 10000 in
theorem repo_any (s : ByteArray) (hs : s.size < 4294967281) (w : World) (hG : Gm w) : Calls Tryd.prog 125 #[.string s] w fun e w' => e = .returned (.bool (repoB s)) ∧ Below w.heap.size w w' := by
  have HN : Hid (∀ w, Gm w → Calls Tryd.prog 140 #[.string s, .int .i64 24] w fun e w' => e = .returned (.bool (namesB 24 s)) ∧ Below w.heap.size w w') := fun w hG => names_any 24 s hs (by omega) w hG
  unfold repoB
  by_cases h : s.size ≤ 24
  · have b1 : decide ((s.size : Int) ≤ 24) = true := decide_eq_true (by omega)
    rw [decide_eq_true h]
    go_enter Tryd.func125, Tryd.ntmps125
    go_wp2_with (go_at_call 140; go_must (with_reducible refine (HN.out _ hG).mono ?_); rintro e w1 ⟨rfl, hb⟩; have HB := hid hb; clear hb)
    go_ret
    exact ⟨by simp, HB.out⟩
  · have b1 : decide ((s.size : Int) ≤ 24) = false := decide_eq_false (by omega)
    rw [decide_eq_false h]
    go_enter Tryd.func125, Tryd.ntmps125
    go_wp2_with fail
    go_ret
    exact ⟨rfl, Below.refl _ _⟩
set_option maxRecDepth 10000 in
theorem tag_any (s : ByteArray) (hs : s.size < 4294967281) (w : World) (hG : Gm w) : Calls Tryd.prog 126 #[.string s] w fun e w' => e = .returned (.bool (tagB s)) ∧ w' = w := by
  have hE := isEmpty_size s
  unfold tagB
  by_cases h0 : s.size = 0
  · rw [decide_eq_true h0] at hE
    rw [decide_eq_false (by simpa using h0)]
    go_enter Tryd.func126, Tryd.ntmps126
    go_wp2_with fail
    go_ret
    exact ⟨rfl, rfl⟩
  · rw [decide_eq_false h0] at hE
    rw [decide_eq_true (by simpa using h0)]
    by_cases h : s.size ≤ 8
    · have b1 : decide ((s.size : Int) ≤ 8) = true := decide_eq_true (by omega)
      have HA := hid (fun w hG => all_any s 2 (by omega) w hG)
      rw [decide_eq_true h]
      go_enter Tryd.func126, Tryd.ntmps126
      go_wp2_with (go_at_call 107; go_must (with_reducible refine (HA.out _ hG).mono ?_); rintro e w1 ⟨rfl, rfl⟩)
      go_ret
      exact ⟨by simp, rfl⟩
    · have b1 : decide ((s.size : Int) ≤ 8) = false := decide_eq_false (by omega)
      rw [decide_eq_false h]
      go_enter Tryd.func126, Tryd.ntmps126
      go_wp2_with fail
      go_ret
      exact ⟨rfl, rfl⟩
/-- What parts, and Split, give. -/
def repoOf (s : ByteArray) : ByteArray := if partsB s then cutA s 58 else ⟨#[]⟩
def tagOf (s : ByteArray) : ByteArray := if partsB s then cutB s 58 else ⟨#[]⟩
set_option maxRecDepth 10000 in
theorem parts_any (s : ByteArray) (hs : s.size < 4294967281) (w : World) (hG : Gm w) : Calls Tryd.prog 109 #[.string s] w fun e w' => e = .returned (.tuple #[.string (repoOf s), .string (tagOf s), .bool (partsB s)]) ∧ Below w.heap.size w w' := by
  have HC := hid (fun w hG => cut_any s 58 hs w hG)
  have HR := hid (fun w hG => repo_any (cutA s 58) (Nat.lt_of_le_of_lt (cutA_size s 58) hs) w hG)
  have HT := hid (fun w hG => tag_any (cutB s 58) (Nat.lt_of_le_of_lt (cutB_size s 58) hs) w hG)
  have HG0 := hid hG
  clear hG
  unfold repoOf tagOf partsB
  generalize cutA s 58 = A at *
  generalize cutB s 58 = B at *
  generalize cutF s 58 = F at *
  generalize repoB A = R at *
  generalize tagB B = T at *
  cases F with
  | false =>
    go_enter Tryd.func109, Tryd.ntmps109
    go_wp2_with (go_at_call 124; go_must (with_reducible refine (HC.out _ HG0.out).mono ?_); rintro e w1 ⟨rfl, hb⟩; have HB := hid hb; clear hb)
    exact bodyPost_ret (v := .tuple #[.string ⟨#[]⟩, .string ⟨#[]⟩, .bool false]) (by simp [results, Tryd.results109, go_sem]) rfl ⟨rfl, HB.out⟩
  | true =>
    cases R with
    | false =>
      go_enter Tryd.func109, Tryd.ntmps109
      go_wp2_with (first
        | (go_at_call 124; go_must (with_reducible refine (HC.out _ HG0.out).mono ?_); rintro e w1 ⟨rfl, hb⟩; have HB := hid hb; clear hb)
        | (go_at_call 125; go_must (with_reducible refine (HR.out _ (HG0.out.later HB.out)).mono ?_); rintro e w2 ⟨rfl, hb⟩; have HB2 := hid (HB.out.trans (hb.mono HB.out.size)); clear hb))
      exact bodyPost_ret (v := .tuple #[.string ⟨#[]⟩, .string ⟨#[]⟩, .bool false]) (by simp [results, Tryd.results109, go_sem]) rfl ⟨rfl, HB2.out⟩
    | true =>
      cases T with
      | false =>
        go_enter Tryd.func109, Tryd.ntmps109
        go_wp2_with (first
          | (go_at_call 124; go_must (with_reducible refine (HC.out _ HG0.out).mono ?_); rintro e w1 ⟨rfl, hb⟩; have HB := hid hb; clear hb)
          | (go_at_call 125; go_must (with_reducible refine (HR.out _ (HG0.out.later HB.out)).mono ?_); rintro e w2 ⟨rfl, hb⟩; have HB2 := hid (HB.out.trans (hb.mono HB.out.size)); clear hb)
          | (go_at_call 126; go_must (with_reducible refine (HT.out _ (HG0.out.later HB2.out)).mono ?_); rintro e w3 ⟨rfl, rfl⟩))
        exact bodyPost_ret (v := .tuple #[.string ⟨#[]⟩, .string ⟨#[]⟩, .bool false]) (by simp [results, Tryd.results109, go_sem]) rfl ⟨rfl, HB2.out⟩
      | true =>
        go_enter Tryd.func109, Tryd.ntmps109
        go_wp2_with (first
          | (go_at_call 124; go_must (with_reducible refine (HC.out _ HG0.out).mono ?_); rintro e w1 ⟨rfl, hb⟩; have HB := hid hb; clear hb)
          | (go_at_call 125; go_must (with_reducible refine (HR.out _ (HG0.out.later HB.out)).mono ?_); rintro e w2 ⟨rfl, hb⟩; have HB2 := hid (HB.out.trans (hb.mono HB.out.size)); clear hb)
          | (go_at_call 126; go_must (with_reducible refine (HT.out _ (HG0.out.later HB2.out)).mono ?_); rintro e w3 ⟨rfl, rfl⟩))
        exact bodyPost_ret (v := .tuple #[.string A, .string B, .bool true]) (by simp [results, Tryd.results109, go_sem]) rfl ⟨rfl, HB2.out⟩
set_option maxRecDepth 10000 in
theorem image_any (s : ByteArray) (hs : s.size < 4294967281) (w : World) (hG : Gm w) : Calls Tryd.prog 89 #[.string s] w fun e w' => e = .returned (.int .i64 (if partsB s then 0 else 33)) ∧ Below w.heap.size w w' := by
  have HP := hid (fun w hG => parts_any s hs w hG)
  generalize repoOf s = A at *
  generalize tagOf s = B at *
  generalize partsB s = F at *
  cases F with
  | false =>
    go_enter Tryd.func89, Tryd.ntmps89
    go_wp2_with (first | (go_at_call 109; go_must (with_reducible refine (HP.out _ hG).mono ?_); rintro e w1 ⟨rfl, hb⟩; have HB := hid hb; clear hb) | go_in)
    go_ret
    exact ⟨rfl, HB.out⟩
  | true =>
    go_enter Tryd.func89, Tryd.ntmps89
    go_wp2_with (first | (go_at_call 109; go_must (with_reducible refine (HP.out _ hG).mono ?_); rintro e w1 ⟨rfl, hb⟩; have HB := hid hb; clear hb) | go_in)
    go_ret
    exact ⟨rfl, HB.out⟩
set_option maxRecDepth 10000 in
theorem split_any (s : ByteArray) (hs : s.size < 4294967281) (w : World) (hG : Gm w) : Calls Tryd.prog 92 #[.string s] w fun e w' => e = .returned (.tuple #[.string (repoOf s), .string (tagOf s)]) ∧ Below w.heap.size w w' := by
  have HP := hid (fun w hG => parts_any s hs w hG)
  generalize repoOf s = A at *
  generalize tagOf s = B at *
  go_enter Tryd.func92, Tryd.ntmps92
  go_wp2_with (go_at_call 109; go_must (with_reducible refine (HP.out _ hG).mono ?_); rintro e w1 ⟨rfl, hb⟩; have HB := hid hb; clear hb)
  exact bodyPost_ret (v := .tuple #[.string A, .string B]) (by simp [results, Tryd.results92, go_sem]) rfl ⟨rfl, HB.out⟩
end Go.Proofs.YtmgcapccgncmkaaDoor.Tx
