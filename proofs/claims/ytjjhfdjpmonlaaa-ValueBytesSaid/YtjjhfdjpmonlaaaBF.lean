/- Contracts of functions that many packages share. -/
import Derived.Test.YtjjhfdjpmonlaaaB
namespace Go.Proofs.Ytjjhfdjpmonlaaa
open Go Go.W
def aroundI (n m : Int) : Int := if n < 0 then Int.tmod (0 - (n + 1)) m else Int.tmod n m
theorem aroundI_range (n m : Int) (hm : 1 ≤ m) : 0 ≤ aroundI n m ∧ aroundI n m < m := by
  unfold aroundI
  split
  · exact ⟨Int.tmod_nonneg _ (by omega), Int.tmod_lt_of_pos _ (by omega)⟩
  · exact ⟨Int.tmod_nonneg _ (by omega), Int.tmod_lt_of_pos _ (by omega)⟩
abbrev I64 (n : Int) : Prop := -9223372036854775808 ≤ n ∧ n ≤ 9223372036854775807
abbrev U64 (n : Int) : Prop := 0 ≤ n ∧ n ≤ 18446744073709551615
theorem around_any (n m : Int) (w : World) (hm : 1 ≤ m) (h : I64 n) :
    Calls Try.prog n_enthymemeref01_Around #[.int .i64 n, .int .i64 m] w fun r w' => r = .returned (.int .i64 (aroundI n m)) ∧ w = w' := by
  obtain ⟨h1, h2⟩ := h
  refine enthymemeref01_Around.ok n m w _ ?_
  refine sel_intro (fun h => ?_) (fun h => ?_)
  · have h' : n < 0 := by simpa using h
    refine ⟨by omega, ?_, rfl⟩
    rw [show IntKind.wrap .i64 (n + 1) = n + 1 from IntWalk.i64_in _ (by omega), show IntKind.wrap .i64 (0 - (n + 1)) = 0 - (n + 1) from IntWalk.i64_in _ (by omega)]
    unfold aroundI; rw [if_pos h']
  · have h' : ¬ n < 0 := by simpa using h
    refine ⟨by omega, ?_, rfl⟩
    unfold aroundI; rw [if_neg h']

theorem same_bytes {w : World} {s t : Sl} {a b : List UInt8} (ha : Bytes w s a) (hb : Bytes w t b) (hl : a.length ≤ 1000000000000) :
    Calls Try.prog n_enthymemeref01_SameBytes #[s.v, t.v] w fun r w' => r = .returned (.bool (decide (a = b))) ∧ Fr0 w w' := by
  have hn := Bytes.len ha
  have hm := Bytes.len hb
  refine enthymemeref01_SameBytes.ok s t w _ ?_
  refine sel_intro (fun h => ?_) (fun h => ?_)
  · refine ⟨?_, Fr.refl _ _⟩
    have : a ≠ b := fun e => by subst e; rw [hn, hm] at h; simp at h
    simp [this]
  · have hlen : a.length = b.length := by rw [hn, hm] at h; simp at h; omega
    have main : ∀ (n i : Nat), i + n = a.length → a.take i = b.take i → ∀ w', Fr0 w w' → enthymemeref01_SameBytes.L4 s t (i : Int) w' fun r w' => r = .returned (.bool (decide (a = b))) ∧ Fr0 w w' := by
      intro n
      induction n with
      | zero =>
        intro i hi he w' hf
        refine enthymemeref01_SameBytes.L4_step _ _ _ _ _ ?_
        refine sel_false (by rw [hn]; simp; omega) ⟨?_, hf⟩
        rw [List.take_of_length_le (by omega), List.take_of_length_le (by omega)] at he
        simp [he]
      | succ n ih =>
        intro i hi he w' hf
        have hia : a[i]? = some a[i] := List.getElem?_eq_getElem (by omega)
        have hib : b[i]? = some b[i] := List.getElem?_eq_getElem (by omega)
        refine enthymemeref01_SameBytes.L4_step _ _ _ _ _ ?_
        have fd : Fr0 w w'.drew := hf.tr0 (Fr.drew _ _)
        refine sel_true (by rw [hn]; simp; omega) ⟨by omega, by rw [hn]; omega, Bytes.cell (ha.fr0 fd) hia (by simp) fun p _ hp => ⟨_, hp, by omega, by rw [hm]; omega, Bytes.cell (hb.fr0 fd) hib (by simp) fun q _ hq => ⟨_, hq, sel_intro (fun h => ?_) (fun h => ?_)⟩⟩⟩
        · refine ⟨?_, fd⟩
          have : a ≠ b := fun e => by subst e; simp at h
          simp [this]
        · show enthymemeref01_SameBytes.L4 s t (IntKind.wrap .i64 ((i : Int) + 1)) _ _
          rw [show IntKind.wrap .i64 ((i : Int) + 1) = ((i + 1 : Nat) : Int) from by rw [IntWalk.i64_in _ (by omega)]; omega]
          refine ih (i + 1) (by omega) ?_ _ fd
          have e : a[i] = b[i] := by
            have h' : ((a[i].toNat : Nat) : Int) = (b[i].toNat : Int) := by simpa using h
            exact UInt8.toNat_inj.1 (by omega)
          rw [List.take_add_one, List.take_add_one, hia, hib, he, e]
    exact main a.length 0 (by omega) (by simp) w (Fr.refl _ _)

theorem clone_bytes (s : Sl) (bs : List UInt8) (w : World) (hb : Bytes w s bs) (hl : bs.length ≤ 140737488355328) : Calls Try.prog n_slices_Clone_sl_byte_byte #[s.v] w (fun r w' => ∃ s : Sl, r = .returned s.v ∧ BytesO w' s bs ∧ Fr0 w w' ∧ ∀ b ∈ blkL s, w.heap.size ≤ b) := by
  refine slices_Clone_sl_byte_byte.ok s w _ ?_
  refine sel_intro (fun h => ?_) (fun h => ?_)
  · have hn : bs = [] := by
      have := (hb.2.2.1 (by simpa using h)).1
      exact List.eq_nil_of_length_eq_zero (by rw [← Bytes.len hb, this])
    subst hn
    exact ⟨⟨none, 0, 0⟩, rfl, Ow.nil w _, Fr.refl _ _, by simp [blkL]⟩
  · unfold slices_Clone_sl_byte_byte.S3
    intro w1
    have ho : BytesO w1 ⟨some ⟨w.heap.size, 0, none⟩, 0, 0⟩ [] := Ow.made w ty_uint8 [] 0 rfl (by omega)
    have hb1 : Bytes w1 s bs := hb.fr0 (Fr.alloc _ _ _)
    obtain ⟨s', w2, hrun, hown, hfr, hbl, _⟩ := append_bytes (ty := ty_sl_uint8) ho hb1 (by simp; omega)
    refine ⟨s', w2, hrun, s', rfl, by simpa using hown, ?_, ?_⟩
    · refine (Fr.alloc (fun _ => False) w _).trans hfr fun x hx hm => ?_
      simp [blkL] at hm
      omega
    · intro b hb'
      rcases hbl b hb' with h | h
      · simp [blkL] at h; omega
      · have : w1.heap.size = w.heap.size + 1 := size_alloc _ _
        omega

end Go.Proofs.Ytjjhfdjpmonlaaa
