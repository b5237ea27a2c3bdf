/- Decode: the contract. -/
import Derived.Test.YtjjhfdjpmonlaaaK13
import Derived.Test.YtjjhfdjpmonlaaaK7
namespace Go.Proofs.Ytjjhfdjpmonlaaa
open Go Go.W

theorem rdEs_len : ∀ (n : Nat) (st : RS), (rdEs n st).1.length = n
  | 0, _ => rfl
  | n + 1, st => by
    show (rdEs n (rdE st).2).1.length + 1 = _
    rw [rdEs_len n]
theorem c_Decode (bs : List UInt8) (s : Sl) (w : World) (h : Bytes w s bs) (hl : bs.length ≤ 1000000) : Calls Try.prog n_value_Decode #[s.v] w fun r w' => Ret2 ty_value_Entry w (decV bs).2 (decV bs).1 r w' ∧ Fr0 w w' := by
  have nn := Bytes.len h
  have bad : ∀ {w' : World}, decV bs = (2, noVal) → Fr0 w w' → Ret2 ty_value_Entry w (decV bs).2 (decV bs).1 (.returned (.tuple #[.agg #[.int .i64 0, .int .i64 0, .int .i64 0, .int .u64 0, .string (ByteArray.mk #[]), .slice none 0 0], .int .i64 2])) w' ∧ Fr0 w w' := fun he f => by
    rw [he]
    exact ⟨⟨⟨none, 0, 0⟩, rfl, OwnRow.nil _ _ _, fun b hb => by simp [blkL] at hb⟩, f⟩
  have loop : ∀ (d j : Nat) (m : List Ent) (sl : Sl) (st : RS) (b2 b5 rb : Nat) (fp : List Nat) (w1 : World), ¬ ((rd6 bs).1 < 0 ∨ (bs.length : Int) < (rd6 bs).1) → j + d = (rd6 bs).1.toNat → (rdEs (rd6 bs).1.toNat (rd6 bs).2) = (m ++ (rdEs d st).1, (rdEs d st).2) → m.length = j → LH F0 w w1 [.g b2, .rdr rb st fp, .g b5, .row ty_value_Entry 3 sl (entsC m)] [] →
      value_Decode.L1T b2 0 0 0 0 (ByteArray.mk #[]) ⟨none, 0, 0⟩ (some (at0 rb)) b5 (rd1 bs).1 (rd2 bs).1 (rd3 bs).1 ((rd4 bs).1 : Int) (ba (rd5 bs).1) sl (rd6 bs).1 (j : Int) w1 fun r w' => Ret2 ty_value_Entry w (decV bs).2 (decV bs).1 r w' ∧ Fr0 w w' := by
    intro d
    induction d with
    | zero =>
      intro j m sl st b2 b5 rb fp w1 hc hj he hm H
      have he' : rdEs (rd6 bs).1.toNat (rd6 bs).2 = (m, st) := by rw [he]; simp [rdEs]
      have dec : decV bs = if rdEnd st ≠ 0 then (2, noVal) else if validV ⟨⟨(rd1 bs).1, (rd2 bs).1, (rd3 bs).1⟩, (rd4 bs).1, (rd5 bs).1, m⟩ ≠ 0 then (2, noVal) else (0, ⟨⟨(rd1 bs).1, (rd2 bs).1, (rd3 bs).1⟩, (rd4 bs).1, (rd5 bs).1, m⟩) := by
        unfold decV rdV
        rw [if_neg hc, he']
      refine value_Decode.L1T_step _ _ _ _ _ _ _ _ _ _ _ _ _ _ _ _ _ _ _ (sel_false (decide_eq_false (by omega)) (H.callg (r_end (H.get 1)) ?_))
      rintro _ w2 rfl H2
      refine ⟨_, rfl, sel_ne (fun hb => H2.locg fun w3 H3 => bad (by rw [dec, if_pos hb]) H3.fr) (fun hb => H2.callg (c_Valid ⟨⟨(rd1 bs).1, (rd2 bs).1, (rd3 bs).1⟩, (rd4 bs).1, (rd5 bs).1, m⟩ sl w2 (OwnRow.rdn (H2.get 3)) (by show m.length ≤ 1000000; omega)) ?_)⟩
      rintro _ w3 rfl H3
      refine ⟨_, rfl, sel_ne (fun hv => H3.locg fun w4 H4 => bad (by rw [dec, if_neg (by simpa using hb), if_pos hv]) H4.fr) (fun hv => H3.locg fun w4 H4 => ⟨?_, H4.fr⟩)⟩
      rw [dec, if_neg (by simpa using hb), if_neg (by simpa using hv)]
      exact ⟨sl, rfl, H4.get 3, fun b hb => (H4.new _ (List.mem_of_getElem? (i := 3) rfl) b hb).resolve_right id⟩
    | succ d ih =>
      intro j m sl st b2 b5 rb fp w1 hc hj he hm H
      refine value_Decode.L1T_step _ _ _ _ _ _ _ _ _ _ _ _ _ _ _ _ _ _ _ (sel_true (decide_eq_true (by omega)) (H.locg fun w2 H2 => ?_))
      refine H2.rm 1 rfl (fun hr => r_uint hr) fun w3 H3 => ⟨_, rfl, ?_⟩
      refine H3.rm 1 rfl (fun hr => r_uint hr) fun w4 H4 => ⟨_, rfl, ?_⟩
      refine H4.rm 1 rfl (fun hr => r_text hr) fun w5 H5 => ⟨_, rfl, ?_⟩
      have hn := ents_n (H5.get 3 : OwnRow _ _ _ _ _).rdn
      refine H5.ap1T 3 el_ve rfl (fun s' w6 H6 => H6.locg fun w7 H7 => ?_) (by omega)
      rw [i64_next _ (by omega)]
      refine ih (j + 1) (m ++ [(rdE st).1]) s' (rdE st).2 b2 b5 rb fp w7 hc (by omega) ?_ (by simp [hm]) ?_
      · rw [he, List.append_assoc]; rfl
      · rw [entsC_snoc]; exact H7
  refine value_Decode.okT _ w _ ((lh0 [.rd s (bs.map byteV)] (by simp only [List.mem_cons, List.not_mem_nil, or_false]; rintro e rfl; exact h)).newg fun b2 w1 H1 => callF0 ((r_read (H1.getD 0) (by omega)).mono ?_))
  rintro _ w2 ⟨rb, fp, rfl, rep, f, nf⟩
  have H2 := H1.push (.rdr rb ⟨bs, 0⟩ fp) f rep (fun b hb => nf b (mem_nub.1 hb))
  refine ⟨f, some (at0 rb), rfl, ?_⟩
  refine H2.rm 1 rfl (fun hr => r_int hr) fun w3 H3 => ⟨_, rfl, ?_⟩
  refine H3.rm 1 rfl (fun hr => r_int hr) fun w4 H4 => ⟨_, rfl, ?_⟩
  refine H4.rm 1 rfl (fun hr => r_int hr) fun w5 H5 => ⟨_, rfl, ?_⟩
  refine H5.rm 1 rfl (fun hr => r_uint hr) fun w6 H6 => ⟨_, rfl, ?_⟩
  refine H6.rm 1 rfl (fun hr => r_text hr) fun w7 H7 => ⟨_, rfl, ?_⟩
  refine H7.newg fun b5 w8 H8 => H8.locg fun w9 H9 => ?_
  refine H9.rm 1 rfl (fun hr => r_int hr) fun w10 H10 => ⟨_, rfl, ?_⟩
  have dec1 : ((rd6 bs).1 < 0 ∨ (bs.length : Int) < (rd6 bs).1) → decV bs = (2, noVal) := fun hc => by
    unfold decV rdV
    rw [if_pos hc]
  refine sel_dec (fun h1 => H10.locg fun w11 H11 => bad (dec1 (.inl h1)) H11.fr) (fun h1 => sel_dec (fun h2 => H10.locg fun w11 H11 => bad (dec1 (.inr (by
    have h2' : (rd6 bs).1 > ((s.n : Nat) : Int) := h2
    omega))) H11.fr) (fun h2 => ?_))
  have h1' : ¬ (rd6 bs).1 < 0 := h1
  have h2' : ¬ (rd6 bs).1 > ((s.n : Nat) : Int) := h2
  exact loop (rd6 bs).1.toNat 0 [] ⟨none, 0, 0⟩ (rd6 bs).2 b2 b5 rb fp w10 (by omega) (by omega) (by simp) rfl ((H10.nilrow ty_value_Entry 3).forget [] (by simp))
end Go.Proofs.Ytjjhfdjpmonlaaa
