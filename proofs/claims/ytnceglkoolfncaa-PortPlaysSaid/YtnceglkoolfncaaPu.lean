/- The table of ports: the document's functions as they are called in the law PortPlays. -/
import Derived.Test.YtnceglkoolfncaaPt
namespace Go.Proofs.Ytnceglkoolfncaa.Po
open Go.RowKit Go.Pv Go.Proofs.Ytnceglkoolfncaa.PPortPlays Go.Proofs.YtnceglkoolfncaaW.PrintWords

/-- The document's list, told by the table's. -/
def QV (w : World) (ok : Nat → Prop) (A : Option Addr) (c : Nat) (hs : List Hd) : Prop := Kd.V k75 75 w 0 ok (.slice A hs.length c) (hs.map tS)

theorem QV.nil (w : World) (ok : Nat → Prop) : QV w ok none 0 [] := Kd.V_nil k75 75 w 0 ok
theorem QV.mono {w : World} {ok ok' : Nat → Prop} {A : Option Addr} {c : Nat} {hs : List Hd} (h : QV w ok A c hs) (hok : ∀ k, ok k → ok' k) : QV w ok' A c hs := Kd.V_mono h hok
theorem QV.kept {w w' : World} {ok F : Nat → Prop} {A : Option Addr} {c : Nat} {hs : List Hd} (h : QV w ok A c hs) (hk : Keeps F w w') (hF : ∀ k, ok k → ¬ F k) : QV w' ok A c hs := Kd.V_step h (fun k ho hlt => hk.block k hlt (hF k ho))
theorem QV.C {w : World} {ok : Nat → Prop} {A : Option Addr} {c : Nat} {hs : List Hd} (h : QV w ok A c hs) : (hs.map tS).length ≤ c ∧ Kd.C k75 w A (hs.map tS).length (hs.map tS) := by
  have h' : Kd.V k75 75 w 0 ok (.slice A hs.length c) (hs.map tS) := h
  obtain ⟨h1, h2, h3⟩ := Kd.V_reads' h'
  exact ⟨by omega, h3⟩

theorem rOwner {w : World} {ok : Nat → Prop} {A : Option Addr} {c : Nat} {hs : List Hd} (h : QV w ok A c hs) (hl : hs.length ≤ 100000) (q : Int) :
    Calls Try.prog 38 #[.slice A hs.length c, .int .i64 q] w fun e w' => e = .returned (.int .i64 (ownerOf hs q)) ∧ Keeps (fun _ => False) w w' := by
  have h1 := provostref15_Owner.calls (hs.length + 1) A c (hs.map tS) q (ownerOf hs q) w h.C.2 h.C.1 (owner_f hs q hl _ (by omega))
  rw [List.length_map] at h1
  exact h1.mono fun e w' ⟨a, b⟩ => ⟨a, below_keeps b.below _⟩

theorem rFree {w : World} {ok : Nat → Prop} {A : Option Addr} {c : Nat} {hs : List Hd} (h : QV w ok A c hs) (hl : hs.length ≤ 100000) (o : Int) :
    Calls Try.prog 34 #[.slice A hs.length c, .int .i64 o] w fun e w' => ∃ A' c', e = .returned (.tuple #[.slice A' (without o hs).length c', .int .i64 ((hs.length : Int) - (without o hs).length)]) ∧ QV w' (fun k => w.heap.size ≤ k) A' c' (without o hs) ∧ Keeps (fun _ => False) w w' := by
  have h1 := provostref15_Free.calls (hs.length + 1) A c (hs.map tS) o _ _ w h.C.2 h.C.1 (free_f hs o hl)
  rw [List.length_map] at h1
  refine h1.mono fun e w' ⟨v, a, b, c⟩ => ?_
  obtain ⟨A', c', rfl⟩ := Kd.R_slice b
  rw [List.length_map] at a b
  exact ⟨A', c', a, Kd.V_mono (Kd.R_V (Kd.R_bound b)) (fun k hk => hk.2.1), below_keeps c _⟩

theorem rTake {w : World} {ok : Nat → Prop} {A : Option Addr} {c : Nat} {hs : List Hd} (h : QV w ok A c hs) (hr : Rising hs) (ho : Owned hs) {pa : Option Addr} {pc : Nat} {ps : List Int} (hps : Rd w 1 encI (.slice pa ps.length pc) ps) (hcap : ps.length ≤ pc)
    (hp : ps.length ≤ 1000) (hl : hs.length + ps.length ≤ 3000) (o : Int) :
    Calls Try.prog 32 #[.slice A hs.length c, .int .i64 o, .slice pa ps.length pc] w fun e w' => ∃ A' c', e = .returned (.tuple #[.slice A' (takeRes o ps hs).2.length c', .int .i64 (takeRes o ps hs).1]) ∧ QV w' (fun k => ok k ∨ w.heap.size ≤ k) A' c' (takeRes o ps hs).2 ∧ Keeps (fun _ => False) w w' := by
  have hV : Kd.V k75 75 w w.heap.size (fun k => ok k) (.slice A (hs.map tS).length c) (hs.map tS) := by
    rw [List.length_map]; exact h
  have h1 := provostref15_Take.calls _ ok A c (hs.map tS) o pa pc ps _ _ w hV (C_of_rd hps (by omega)) hcap (take_f hs o ps hp hr ho hl 4000 (by omega))
  rw [List.length_map] at h1
  refine h1.mono fun e w' ⟨v, a, b, c⟩ => ?_
  obtain ⟨A', c', rfl⟩ := Kd.V_slice b
  rw [List.length_map] at a b
  exact ⟨A', c', a, b, below_keeps c _⟩

theorem rSame {w : World} {A B : Option Addr} {c d : Nat} {l : List Int} (h : SlOf w 3 1 encI (.slice A l.length c) l) (h' : SlOf w 3 1 encI (.slice B l.length d) l) (hl : l.length ≤ 100000) :
    Calls Try.prog 40 #[.slice A l.length c, .slice B l.length d] w fun e w' => e = .returned (.bool true) ∧ Keeps (fun _ => False) w w' := by
  exact (provostbook_SameInts.calls _ A c l B d l true w (C_of_sl h hl) (sl_cap h) (C_of_sl h' hl) (sl_cap h') (same_f l hl)).mono fun e w' ⟨a, b⟩ => ⟨a, below_keeps b.below _⟩

theorem takeRes_owned {o : Int} {ps : List Int} {hs : List Hd} (h : Owned hs) : Owned (takeRes o ps hs).2 := by
  rcases takeRes_cases o ps hs with ⟨e, _⟩ | ⟨_, _, h1, h2⟩
  · rw [e]; exact h
  · intro x hx
    rcases List.mem_append.1 ((takeAll_perm o ps hs _ h2).mem_iff.1 hx) with hx | hx
    · obtain ⟨p, _, rfl⟩ := List.mem_map.1 hx; exact h1
    · exact h x hx
theorem takeRes_few (o : Int) (ps : List Int) (hs : List Hd) : (takeRes o ps hs).2.length ≤ hs.length + ps.length := by
  rcases takeRes_cases o ps hs with ⟨e, _⟩ | ⟨_, _, h1, h2⟩
  · rw [e]; omega
  · rw [take_length h2]; omega
theorem without_owned {o : Int} {hs : List Hd} (h : Owned hs) : Owned (without o hs) := fun x hx => h x (mem_without.1 hx).1
theorem without_few (o : Int) (hs : List Hd) : (without o hs).length ≤ hs.length := by unfold without; exact List.length_filter_le _ _
end Go.Proofs.Ytnceglkoolfncaa.Po
