/- The table of ports: Take of ports that may be. -/
import Derived.Test.YtnceglkoolfncaaPg
namespace Go.Proofs.Ytnceglkoolfncaa.Po
open Go.RowKit Go.Pv

theorem ins_length (o : Int) (l : List Hd) (p : Int) : (ins o l p).length = l.length + 1 := by
  unfold ins
  rw [List.length_append, List.length_cons, List.length_take, List.length_drop]
  omega

theorem TabAt.set' {w w' : World} {p : Nat} {v v' : Value} {l l' : List Hd} {F : Nat → Prop} (h : TabAt w p v l) (k : Keeps F w w') (hp : ¬ F p) (hs : SlOf w' 181 2 encH v' l') (hr : Rising l') (hv : v'.ownBlock ≠ some p) :
    TabAt (w'.setCell ⟨p, 0, none⟩ v') p v' l' where
  cell := by rw [row_set ((k.block p h.plt hp).trans h.cell)]; rfl
  sl := SlRow.kept hs ((Keeps.refl (fun i => i = p) w').setCell ⟨p, 0, none⟩ v' (.inl rfl)) (fun g hg e => hv (by rw [hg, e]))
  ris := hr

/-- Ahead of each round of the second loop. -/
structure TInv (w : World) (o : Int) (ps : List Int) (l : List Hd) (nb i : Nat) (wr : World) : Prop where
  ex : ∃ v' l', TabAt wr nb v' l' ∧ takeAll o (ps.drop i) l' = takeAll o ps l ∧ l'.length = l.length + i ∧ (∀ g, v'.ownBlock = some g → w.heap.size ≤ g)
  keep : Keeps (fun i => w.heap.size ≤ i) w wr

set_option maxRecDepth 10000 in
set_option maxHeartbeats 2000000 in
theorem take_go {w : World} {p : Nat} {v pv : Value} {l : List Hd} {ps : List Int} (h : TabAt w p v l) (hr : Rd w 1 encI pv ps) (hl : l.length + ps.length ≤ 40000) (o : Int) (ho : 1 ≤ o) (hall : allPorts ps) :
    Calls Try.prog 33 #[.pointer (some ⟨p, 0, none⟩), .int .i64 o, pv] w fun e w' =>
      (takeAll o ps l = none ∧ e = .returned (.int .i64 150) ∧ Below w.heap.size w w') ∨
      (∃ l' v', takeAll o ps l = some l' ∧ e = .returned (.int .i64 0) ∧ TabAt w' p v' l' ∧ Keeps (fun i => i = p) w w' ∧ ∀ g, v'.ownBlock = some g → w.heap.size ≤ g) := by
  obtain ⟨aa, ac, rfl, hcell⟩ := rd_cells hr
  obtain ⟨c0, cf⟩ := h.cells
  have HC := hid hcell
  have HA := hid hall
  have H := hid h
  have hno : ¬ (o < 1) := by omega
  have Hcl := hid (clone_any h.sl (by omega))
  clear h hr hcell hall
  go_enter Try.func33, Try.ntmps33
  go_wp2
  go_loopw [18] (fun iv wr => ∃ i : Nat, iv = .int .i64 i ∧ i ≤ ps.length ∧ w = wr) (fun iv _ => ps.length - (intOf iv).toNat)
  case atStart => exact ⟨0, rfl, by omega, rfl⟩
  case round =>
    obtain ⟨i, rfl, hij, hww⟩ := hrel
    subst hww
    by_cases hil : i < ps.length
    · obtain ⟨b, of, haa, -, hc⟩ := HC.out i hil
      subst haa
      obtain ⟨q, hq⟩ : ∃ q, q = ps[i] := ⟨_, rfl⟩
      rw [← hq] at hc
      have hgood : 1 ≤ q ∧ q ≤ 65535 := by rw [hq]; exact HA.out _ (List.getElem_mem hil)
      have HQ := hid hq
      clear hq
      have hq1 : ¬ (q < 1) := by omega
      have hq2 : ¬ (65535 < q) := by omega
      clear hgood
      go_wp2
      go_roundw
      case rel => exact ⟨i + 1, by go_num, by omega, trivial⟩
      case measure => simp [intOf]; omega
    · have hnl : ¬ ((i : Int) < (ps.length : Int)) := by omega
      clear hil
      go_wp2_with (go_at_call 102
                   go_must (
                    refine Hcl.out.mono ?_
                    rintro e w1 ⟨v1, rfl, a1, a2, a3⟩
                    obtain ⟨ab, ac1, hv1, -⟩ := hform a1
                    subst hv1
                    have A1 := hid a1
                    have A2 := hid a2
                    have A3 := hid a3
                    clear a1 a2 a3))
      have T0 : Hid (TInv w o ps l w1.heap.size 0 (w1.alloc (.cells #[.slice ab l.length ac1] 178))) := hid
        ⟨⟨_, l, ⟨heap_at _ _ _ rfl, SlRow.alloc A1.out _, H.out.ris⟩, by rw [List.drop_zero], rfl, A3.out⟩, (Keeps.mono A2.out (by simp)).alloc _⟩
      have HNB : Hid (w.heap.size ≤ w1.heap.size) := hid A2.out.size
      generalize w1.heap.size = nb at *
      clear c0 cf hnl
      go_loopw [38] (fun iv wr => ∃ i : Nat, iv = .int .i64 i ∧ i ≤ ps.length ∧ Hid (TInv w o ps l nb i wr)) (fun iv _ => ps.length - (intOf iv).toNat)
      case atStart => exact ⟨0, rfl, by omega, T0⟩
      case round =>
        clear T0 A1 A2 A3
        obtain ⟨i, rfl, hij, HT⟩ := hrel
        obtain ⟨v', l', ht, hta, htl, hto⟩ := HT.out.ex
        by_cases hil : i < ps.length
        · obtain ⟨b, of, haa, hbl, hc⟩ := HC.out i hil
          subst haa
          obtain ⟨q, hq⟩ : ∃ q, q = ps[i] := ⟨_, rfl⟩
          rw [← hq] at hc
          have hdrop : ps.drop i = q :: ps.drop (i + 1) := by rw [hq]; exact List.drop_eq_getElem_cons hil
          have d0 : wr.cell? ⟨b, of + i, none⟩ = some (.int .i64 q) := (HT.out.keep.cell (p := ⟨b, of + i, none⟩) hbl (by simp; omega)).trans hc
          rw [hdrop] at hta
          have HFD := hid (find_any ht (by omega) q)
          have HTA := hid hta
          have HTT := hid ht
          have HTO := hid hto
          cases hfb : foundAt q l' (atOf q l') with
          | true =>
            rw [hfb] at HFD
            have hnone : takeAll o ps l = none := by rw [← HTA.out]; simp [takeAll, hfb]
            have HNO := hid hnone
            clear hta ht hto hdrop hq hc hnone
            go_wp2_with (go_at_call 103; go_must (refine HFD.out.mono ?_; rintro e w2 ⟨rfl, hk⟩; have HK2 := hid hk; clear hk))
            go_ret
            exact .inl ⟨HNO.out, rfl, (HT.out.keep.trans (Keeps.mono (F' := fun i => w.heap.size ≤ i) HK2.out (by simp)) (fun i hi => .inl hi)).below (Nat.le_refl _) (fun i hi => hi)⟩
          | false =>
            rw [hfb] at HFD
            have hlen2 := ins_length o l' q
            have HINS : Hid (∀ w2, Keeps (fun _ => False) wr w2 → Calls Try.prog 104 #[v', .int .i64 (atOf q l'), .slice (some ⟨w2.heap.size, 0, none⟩) 1 1] (w2.alloc (.cells #[.int .i64 q, .int .i64 o] 181)) fun e w' =>
                ∃ v'', e = .returned v'' ∧ InsOut (w2.alloc (.cells #[.int .i64 q, .int .i64 o] 181)) w' v' v'' l' (atOf q l') (q, o)) := hid fun w2 k2 =>
              insert_any (SlRow.alloc (SlRow.kept HTT.out.sl k2 (by simp)) _) (by omega) _ (isAt_atOf q HTT.out.ris).1 (q, o) w2.heap.size (heap_at _ _ _ rfl) (fun e => by
                have h1 := SlRow.lt HTT.out.sl e
                have h2 := k2.size
                omega)
            have HCE : Hid (∀ w2, Keeps (fun _ => False) wr w2 → w2.cell? ⟨nb, 0, none⟩ = some v' ∧ nb < w2.heap.size) := hid fun w2 k2 => by
              have h1 := HTT.out.kept k2 (by simp) (by simp)
              exact ⟨h1.cells.1, h1.plt⟩
            have HW3 : Hid (∀ w2 w3 v'', Keeps (fun _ => False) wr w2 → InsOut (w2.alloc (.cells #[.int .i64 q, .int .i64 o] 181)) w3 v' v'' l' (atOf q l') (q, o) →
                (∃ y, w3.cell? ⟨nb, 0, none⟩ = some y) ∧ w3.frozen? ⟨nb, 0, none⟩ = false ∧ (∃ ab c, v'' = .slice ab (ins o l' q).length c) ∧ TInv w o ps l nb (i + 1) (w3.setCell ⟨nb, 0, none⟩ v'')) := hid fun w2 w3 v'' k2 io => by
              have hnv := HTT.out.own
              have k3 : Keeps (fun k => v'.ownBlock = some k) wr w3 := ((Keeps.mono (F' := fun k => v'.ownBlock = some k) k2 (by simp)).alloc _).trans io.keep (fun i hi => .inl hi)
              have hb3 := (k3.block nb HTT.out.plt (fun e => hnv e)).trans HTT.out.cell
              have hvn : v''.ownBlock ≠ some nb := fun e => by
                rcases io.own nb e with h1 | h1
                · exact hnv h1
                · have h2 := HTT.out.plt
                  have h3 := k2.size
                  simp at h1; omega
              have ht3 := HTT.out.set' k3 (fun e => hnv e) (show SlOf w3 181 2 encH v'' (ins o l' q) from io.sl) (ins_rising HTT.out.ris o hfb) hvn
              obtain ⟨ab, c, hv, -⟩ := hform (show SlOf w3 181 2 encH v'' (ins o l' q) from io.sl)
              refine ⟨⟨v', by rw [cell_of_row _ _ _ _ _ _ hb3]; rfl⟩, frozen_of_row _ _ _ _ _ hb3, ⟨ab, c, hv⟩, ⟨v'', ins o l' q, ht3, ?_, ?_, ?_⟩, ?_⟩
              · rw [← HTA.out]; simp [takeAll, hfb]
              · rw [hlen2, htl]; omega
              · intro g hg
                rcases io.own g hg with h1 | h1
                · exact HTO.out g h1
                · have h2 := HT.out.keep.size
                  have h3 := k2.size
                  simp at h1; omega
              · exact (HT.out.keep.trans k3 (fun i hi => .inl (HTO.out i hi))).setCell _ _ (.inl HNB.out)
            clear hta ht hto hdrop hq hc hlen2
            go_wp2_with (first
              | (go_at_call 103; go_must (refine HFD.out.mono ?_; rintro e w2 ⟨rfl, hk⟩; obtain ⟨z0, z1⟩ := HCE.out w2 hk; have HIN := hid (HINS.out w2 hk); have HK2 := hid hk; clear hk))
              | (go_at_call 104
                 go_must (
                  refine HIN.out.mono ?_
                  rintro e w3 ⟨v'', rfl, hio⟩
                  obtain ⟨⟨y, y0⟩, y1, ⟨ab2, c2, hv2⟩, hti⟩ := HW3.out w2 w3 v'' HK2.out hio
                  subst hv2
                  have HTI := hid hti
                  clear hio hti)))
            go_roundw
            case rel => exact ⟨i + 1, by go_num, by omega, HTI⟩
            case measure => simp [intOf]; omega
        · have hie : i = ps.length := by omega
          have hnl : ¬ ((i : Int) < (ps.length : Int)) := by omega
          rw [hie, List.drop_length] at hta
          have htk : takeAll o ps l = some l' := by rw [← hta]; rfl
          have hplt := H.out.plt
          have hkp : Keeps (fun i => i = p) w wr := ⟨HT.out.keep.os, HT.out.keep.tape, HT.out.keep.output, HT.out.keep.size, fun i hi _ => HT.out.keep.block i hi (by omega)⟩
          have hcp := (HT.out.keep.block p hplt (by omega)).trans H.out.cell
          have p0 : wr.cell? ⟨p, 0, none⟩ = some v := by rw [cell_of_row _ _ _ _ _ _ hcp]; rfl
          have p1 : wr.frozen? ⟨p, 0, none⟩ = false := frozen_of_row _ _ _ _ _ hcp
          have hset := H.out.set' HT.out.keep (by omega) ht.sl ht.ris (fun e => by have := hto p e; omega)
          obtain ⟨ab2, c2, hv2, -⟩ := hform ht.sl
          subst hv2
          have n0 := ht.cells.1
          have HTK := hid htk
          have HSET := hid hset
          have HTO := hid hto
          have HKP := hid hkp
          clear hil hie hta htk ht hto hset hkp hcp hplt htl
          go_wp2
          go_ret
          exact .inr ⟨l', HTK.out, rfl, _, HSET.out, HKP.out.setCell _ _ (.inl rfl), HTO.out⟩
end Go.Proofs.Ytnceglkoolfncaa.Po
