/- The reference's lexer: the contract of Tokens. -/
import Derived.Test.YtemagdpieebjlaaM2
namespace Go.Proofs.Ytemagdpieebjlaa
open Go Go.W

theorem el_rtoks : ElemOk Try.prog ty_sl_enthymemeref09_Token ty_enthymemeref09_Token (.agg #[.int .i64 0, .string (ByteArray.mk #[]), .int .i64 0]) 3 32 := ⟨by kernel_rfl, by kernel_rfl, rfl, by decide, by decide⟩
def TksEnd (w0 : World) (acc : List Tok) : TR → Post
  | .ok L => fun r w' => ∃ sl : Sl, r = .returned (.tuple #[sl.v, .int .i64 0, .int .i64 0]) ∧ OwnRow w' ty_enthymemeref09_Token 3 sl (toksC (acc ++ L)) ∧ Fr0 w0 w' ∧ ∀ b ∈ blkL sl, w0.heap.size ≤ b
  | .bad a e => fun r w' => r = .returned (.tuple #[.slice none 0 0, .int .i64 (a : Int), .int .i64 e]) ∧ e ≠ 0 ∧ Fr0 w0 w'
theorem TksEnd_push (w0 : World) (acc : List Tok) (t : Tok) (q : TR) : TksEnd w0 acc (q.push t) = TksEnd w0 (acc ++ [t]) q := by
  cases q <;> simp [TksEnd, TR.push]
theorem toks_skip (n i : Nat) (c : UInt8) (l : List UInt8) (h : spaceB c = true) : toks (n + 1) i (c :: l) = toks (n + 1) (i + 1) l := by
  unfold toks
  simp only [skipN, h, if_true]
  rw [Nat.add_comm 1 (skipN false l), List.drop_succ_cons]
  rw [show i + (skipN false l + 1) = i + 1 + skipN false l from by omega]
/-- where a comment ends -/
def comN : List UInt8 → Nat
  | [] => 0
  | c :: l => if c.toNat = 10 then 0 else 1 + comN l
theorem skip_com : ∀ l : List UInt8, skipN true l = comN l + skipN false (l.drop (comN l))
  | [] => rfl
  | c :: l => by
    unfold comN
    by_cases h : c.toNat = 10
    · rw [if_pos h]
      unfold skipN
      rw [if_pos h, List.drop_zero]
      simp only []
      rw [if_pos (by unfold spaceB; simp [h])]
      omega
    · rw [if_neg h]
      conv => lhs; unfold skipN
      rw [if_neg h, skip_com l, Nat.add_comm 1 (comN l), List.drop_succ_cons]
      omega
theorem comN_le : ∀ l : List UInt8, comN l ≤ l.length
  | [] => Nat.le_refl _
  | c :: l => by
    have := comN_le l
    unfold comN
    split <;> simp <;> omega
theorem toks_com (n i : Nat) (c : UInt8) (l : List UInt8) (h : c.toNat = 59) : toks (n + 1) i (c :: l) = toks (n + 1) (i + comN (c :: l)) ((c :: l).drop (comN (c :: l))) := by
  have e : comN (c :: l) = 1 + comN l := by conv => lhs; unfold comN
                                            rw [if_neg (by omega)]
  have hs : ¬ spaceB c = true := by unfold spaceB; simp [h]
  have k : skipN false (c :: l) = comN (c :: l) + skipN false ((c :: l).drop (comN (c :: l))) := by
    conv => lhs; unfold skipN
    rw [if_neg hs, if_pos h, skip_com l, e, Nat.add_comm 1 (comN l), List.drop_succ_cons]
    omega
  conv => lhs; unfold toks
  conv => rhs; unfold toks
  simp only [k, List.drop_drop, Nat.add_assoc]
theorem toks_tok (n i : Nat) (c : UInt8) (l : List UInt8) (h1 : spaceB c = false) (h2 : c.toNat ≠ 59) : toks (n + 1) i (c :: l) = match next1 (c :: l) with
    | .fin => .ok [⟨6, [], i⟩]
    | .bad a e => .bad (i + a) e
    | .tok kind t u => (toks n (i + u) ((c :: l).drop u)).push ⟨kind, t, i⟩ := by
  have k : skipN false (c :: l) = 0 := by unfold skipN; rw [if_neg (by simp [h1]), if_neg h2]
  conv => lhs; unfold toks
  simp only [k, List.drop_zero, Nat.add_zero]
  cases next1 (c :: l) <;> rfl
/-- a block as a row to read -/
theorem rd_block {w : World} {b n : Nat} {vs : List Value} {T : TypeId} (hb : w.heap[b]? = some (.cells vs.toArray T (0, 0))) (hn : n = vs.length) : Rd w ⟨some (at0 b), n, n⟩ vs :=
  rd_in hn (Nat.le_refl _) (fun h => by cases h) fun i v hi => ⟨at0 b, rfl, cellAt (p := at0 b) hb rfl (by simpa using hi)⟩
/-- more fuel does not matter -/
theorem toks_fuel : ∀ (n m i : Nat) (l : List UInt8), l.length < n → l.length < m → toks n i l = toks m i l
  | 0, m, i, l, h, _ => by omega
  | n + 1, 0, i, l, _, h => by omega
  | n + 1, m + 1, i, l, h1, h2 => by
    unfold toks
    simp only []
    have hsk := skipN_le false l
    cases hn : next1 (l.drop (skipN false l)) with
    | fin => rfl
    | bad a e => rfl
    | tok k t u =>
      obtain ⟨_, hu1, hu2, _⟩ := next1_tok hn
      rw [List.length_drop] at hu2
      simp only []
      rw [toks_fuel n m _ _ (by simp; omega) (by simp; omega)]
theorem r_com_loop (s sp : ByteArray) (hsm : s.size ≤ 1000000) (out : Sl) (w : World) (R : Post) : ∀ (l : List UInt8) (k : Nat), (bl s).drop k = l → k ≤ s.size → (enthymemeref09_Tokens.L6 s sp out ((k + comN l : Nat) : Int) w R) → enthymemeref09_Tokens.L12 s sp out (k : Int) w R := by
  intro l
  induction l with
  | nil =>
    intro k hl hk h
    have := nil_drop hl
    exact enthymemeref09_Tokens.L12_step _ _ _ _ _ _ (sel_false (decide_eq_false (by omega)) h)
  | cons c l ih =>
    intro k hl hk h
    obtain ⟨gc, hl1, hsz⟩ := get_drop hl
    unfold comN at h
    refine enthymemeref09_Tokens.L12_step _ _ _ _ _ _ (sel_true (decide_eq_true (by omega)) ⟨by omega, c, by rw [Int.toNat_natCast]; exact gc, sel_ne (fun h10 => ?_) (fun h10 => ?_)⟩)
    · rw [if_neg (by omega)] at h
      show enthymemeref09_Tokens.L12 _ _ _ (IntKind.wrap .i64 ((k : Int) + 1)) _ _
      rw [i64_next k (by omega)]
      exact ih (k + 1) hl1 (by omega) (by rwa [show k + 1 + comN l = k + (1 + comN l) from by omega])
    · rw [if_pos (by omega)] at h
      exact h
theorem r_word_loop (s sp : ByteArray) (hsm : s.size ≤ 1000000) (out : Sl) (i : Nat) (w : World) (R : Post) : ∀ (l : List UInt8) (k : Nat), (bl s).drop k = l → k ≤ s.size → (enthymemeref09_Tokens.S28 s sp out (i : Int) ((k + (l.takeWhile wordB).length : Nat) : Int) w R) → enthymemeref09_Tokens.L25 s sp out (i : Int) (k : Int) w R := by
  intro l
  induction l with
  | nil =>
    intro k hl hk h
    have := nil_drop hl
    exact enthymemeref09_Tokens.L25_step _ _ _ _ _ _ _ (sel_false (decide_eq_false (by omega)) h)
  | cons c l ih =>
    intro k hl hk h
    obtain ⟨gc, hl1, hsz⟩ := get_drop hl
    refine enthymemeref09_Tokens.L25_step _ _ _ _ _ _ _ (sel_true (decide_eq_true (by omega)) ⟨by omega, c, by rw [Int.toNat_natCast]; exact gc, (r_in c _ (by decide) w).mono ?_⟩)
    rintro r w1 ⟨rfl, rfl⟩
    refine ⟨_, rfl, ?_⟩
    rw [show (bl (ByteArray.mk #[97, 98, 99, 100, 101, 102, 103, 104, 105, 106, 107, 108, 109, 110, 111, 112, 113, 114, 115, 116, 117, 118, 119, 120, 121, 122, 48, 49, 50, 51, 52, 53, 54, 55, 56, 57, 45, 35])).contains c = wordB c from c_all c]
    rw [List.takeWhile_cons] at h
    refine sel_intro (fun hw => ?_) (fun hw => ?_)
    · rw [if_pos hw, List.length_cons] at h
      show enthymemeref09_Tokens.L25 _ _ _ _ (IntKind.wrap .i64 ((k : Int) + 1)) _ _
      rw [i64_next k (by omega)]
      exact ih (k + 1) hl1 (by omega) (by rwa [show k + 1 + (l.takeWhile wordB).length = k + ((l.takeWhile wordB).length + 1) from by omega])
    · rw [if_neg (by simp [hw])] at h
      exact h
theorem r_Tokens_loop (s : ByteArray) (hsm : s.size ≤ 1000000) (w0 : World) : ∀ (m n k : Nat) (l : List UInt8) (acc : List Tok) (out : Sl) (w : World), l.length < m → l.length < n → (bl s).drop k = l → k ≤ s.size → acc.length ≤ k →
    LH F0 w0 w [.row ty_enthymemeref09_Token 3 out (toksC acc)] [] → enthymemeref09_Tokens.L6 s (ba [9, 10, 13, 32]) out (k : Int) w (TksEnd w0 acc (toks n k l)) := by
  intro m
  induction m with
  | zero => intro n k l acc out w h; omega
  | succ m ih =>
    intro n k l acc out w hm hn hl hk hacc H
    obtain ⟨n, rfl⟩ : ∃ n', n = n' + 1 := ⟨n - 1, by omega⟩
    have slen : out.n = acc.length := by have := OwnRow.len (H.get 0); rw [toksC_len] at this; omega
    have hll : l.length = s.size - k := by rw [← hl, List.length_drop, bl_len]
    -- a token more
    have more : ∀ (t : Tok) (out' : Sl) (w' : World) (u : Nat), 1 ≤ u → u ≤ l.length → LH F0 w0 w' [.row ty_enthymemeref09_Token 3 out' (toksC acc ++ tokC t)] [] → enthymemeref09_Tokens.L6 s (ba [9, 10, 13, 32]) out' ((k + u : Nat) : Int) w' (TksEnd w0 acc ((toks n (k + u) (l.drop u)).push t)) := fun t out' w' u hu1 hu2 H' => by
      rw [TksEnd_push]
      exact ih n (k + u) (l.drop u) (acc ++ [t]) out' w' (by simp; omega) (by simp; omega) (by rw [← hl, List.drop_drop]) (by omega) (by simp; omega) (by rw [toksC_snoc]; exact H')
    cases l with
    | nil =>
      have hks := nil_drop hl
      refine enthymemeref09_Tokens.L6_step _ _ _ _ _ _ (sel_false (decide_eq_false (by omega)) ?_)
      refine H.ap1 0 el_rtoks rfl (fun t w4 H4 _ _ => ?_) (by omega)
      have e : toks (n + 1) k [] = .ok [⟨6, [], k⟩] := by unfold toks; simp [skipN, next1]
      rw [e]
      refine ⟨t, rfl, ?_, H4.fr, fun b hb => (H4.new _ (List.mem_of_getElem? (i := 0) rfl) b hb).resolve_right id⟩
      rw [toksC_snoc]
      have := H4.get 0
      rw [show s.size = k from by omega] at this
      exact this
    | cons c l =>
      obtain ⟨gc, hl1, hsz⟩ := get_drop hl
      have gc' : s[Int.toNat (k : Int)]? = some c := by rw [Int.toNat_natCast]; exact gc
      refine enthymemeref09_Tokens.L6_step _ _ _ _ _ _ (sel_true (decide_eq_true (by omega)) ⟨by omega, c, gc', (r_in c _ (by decide) w).mono ?_⟩)
      rintro r w1 ⟨rfl, rfl⟩
      refine ⟨_, rfl, ?_⟩
      rw [show (bl (ba [9, 10, 13, 32])).contains c = spaceB c from c_space c]
      refine sel_intro (fun hs => ?_) (fun hs => ⟨by omega, c, gc', sel_eq (fun h59 => ?_) (fun h59 => ?_)⟩)
      · rw [toks_skip n k c l hs]
        show enthymemeref09_Tokens.L6 _ _ _ (IntKind.wrap .i64 ((k : Int) + 1)) _ _
        rw [i64_next k (by omega)]
        exact ih (n + 1) (k + 1) l acc out w (by simp at hm; omega) (by simp at hn; omega) hl1 (by omega) (by omega) H
      · have h59' : c.toNat = 59 := by omega
        rw [toks_com n k c l h59']
        have hc := comN_le (c :: l)
        have hc1 : 1 ≤ comN (c :: l) := by unfold comN; rw [if_neg (by omega)]; omega
        refine r_com_loop s _ hsm out w _ (c :: l) k hl hk ?_
        exact ih (n + 1) (k + comN (c :: l)) _ acc out w (by simp at hm hc ⊢; omega) (by simp at hn hc ⊢; omega) (by rw [← hl, List.drop_drop]) (by simp at hc hll; omega) (by omega) H
      · rw [toks_tok n k c l hs (by omega)]
        -- brackets
        have br : ∀ kd : Int, IntKind.wrap .i64 ((IntKind.wrap .i64 ((c.toNat : Nat) : Int)) - 40) = kd → enthymemeref09_Tokens.S16 s (ba [9, 10, 13, 32]) out (k : Int) w (TksEnd w0 acc ((toks n (k + 1) l).push ⟨kd, [], k⟩)) := fun kd hkd => by
          refine ⟨by omega, c, gc', ?_⟩
          rw [hkd]
          refine H.ap1 0 el_rtoks rfl (fun t w4 H4 _ _ => ?_) (by omega)
          show enthymemeref09_Tokens.L6 _ _ _ (IntKind.wrap .i64 ((k : Int) + 1)) _ _
          rw [i64_next k (by omega)]
          exact more ⟨kd, [], k⟩ t w4 1 (by omega) (by simp) H4
        have cw : IntKind.wrap .i64 ((c.toNat : Nat) : Int) = ((c.toNat : Nat) : Int) := IntWalk.i64_in _ (by have := c.toNat_lt; omega)
        unfold next1
        simp only []
        refine ⟨by omega, c, gc', sel_eq (fun h40 => ?_) (fun h40 => ⟨by omega, c, gc', sel_eq (fun h41 => ?_) (fun h41 => ⟨by omega, c, gc', sel_eq (fun h34 => ?_) (fun h34 => ?_)⟩)⟩)⟩
        · rw [if_pos (by omega)]
          exact br 0 (by rw [cw, h40]; rfl)
        · rw [if_neg (by omega), if_pos (by omega)]
          exact br 1 (by rw [cw, h41]; rfl)
        · rw [if_neg (by omega), if_neg (by omega), if_pos (by omega)]
          refine (r_quoted s k c l hl hsm w).mono ?_
          intro r w1 hp
          cases hq : qu l with
          | ok t u =>
            rw [hq] at hp
            obtain ⟨rfl, f1⟩ := hp
            have hu := qu_len _ l (Nat.lt_succ_self _) _ _ hq
            refine ⟨_, _, _, rfl, sel_false rfl ?_⟩
            refine (H.fr0 f1).ap1 0 el_rtoks rfl (fun t' w4 H4 _ _ => ?_) (by omega)
            show enthymemeref09_Tokens.L6 _ _ _ ((k + 1 + u : Nat) : Int) _ _
            rw [Nat.add_assoc]
            exact more ⟨5, t, k⟩ t' w4 (1 + u) (by omega) (by simp; omega) H4
          | bad a e =>
            rw [hq] at hp
            obtain ⟨⟨x, rfl⟩, f1⟩ := hp
            have he := qu_err _ l (Nat.lt_succ_self _) _ _ hq
            refine ⟨_, _, _, rfl, sel_true (by rcases he with rfl | rfl <;> rfl) ?_⟩
            refine ⟨?_, by omega, (H.fr0 f1).fr⟩
            rw [Nat.add_assoc]
        · rw [if_neg (by omega), if_neg (by omega), if_neg (by omega)]
          refine r_word_loop s _ hsm out k w _ (c :: l) k hl hk ?_
          have htl : ((c :: l).takeWhile wordB).length ≤ l.length + 1 := by
            have := (List.takeWhile_prefix (p := wordB) (l := c :: l)).length_le
            simpa using this
          refine sel_eq (fun h => ?_) (fun h => ?_)
          · have h0 : ((c :: l).takeWhile wordB).length = 0 := by omega
            have hnw : ¬ wordB c = true := fun e => by rw [List.takeWhile_cons, if_pos e] at h0; simp at h0
            have hns : ¬ startB c = true := fun e => hnw (by unfold startB at e; unfold wordB; simp at e ⊢; rcases e with (h | h) | h <;> simp [h])
            rw [if_neg hns]
            exact ⟨rfl, by omega, H.fr⟩
          · have hwc : wordB c = true := by
              by_cases e : wordB c = true
              · exact e
              · rw [List.takeWhile_cons, if_neg e] at h; simp at h
            have hpre : (c :: l).take ((c :: l).takeWhile wordB).length = (c :: l).takeWhile wordB := (List.prefix_iff_eq_take.1 (List.takeWhile_prefix wordB)).symm
            have hex : bl (s.extract k (k + ((c :: l).takeWhile wordB).length)) = (c :: l).takeWhile wordB := by
              rw [bl_extract, List.drop_take, hl, Nat.add_sub_cancel_left, hpre]
            have hws : ∀ x ∈ (c :: l).takeWhile wordB, wordB x = true := fun x hx => List.all_eq_true.1 (List.all_takeWhile (p := wordB) (l := c :: l)) x hx
            have hnil : (c :: l).takeWhile wordB ≠ [] := by rw [List.takeWhile_cons, if_pos hwc]; simp
            have hdr : (bl s).drop (k + ((c :: l).takeWhile wordB).length) = (c :: l).drop ((c :: l).takeWhile wordB).length := by rw [← List.drop_drop, hl]
            have hdash : startB c = false → exam ((c :: l).takeWhile wordB) = (0, 2) := fun hns => by
              have h45 : c.toNat = 45 := by unfold wordB startB at *; simp at hwc hns; rcases hwc with ((h | h) | h) | h <;> simp_all
              rw [List.takeWhile_cons, if_pos hwc]
              unfold exam
              have hsm' : smallB c = false := by unfold smallB; simp [h45]
              have hdg : digB 10 c = false := by unfold digB; simp [h45]
              simp [hsm', h45, hdg]
            generalize hT : (c :: l).takeWhile wordB = t at *
            have ht1 : 1 ≤ t.length := List.length_pos_iff.2 hnil
            refine ⟨by omega, by omega, by omega, by rw [Int.toNat_natCast]; omega, ?_⟩
            rw [Int.toNat_natCast, Int.toNat_natCast]
            refine (r_Plain _ w (by rw [hex]; exact hnil) (by rw [hex]; exact hws) (by rw [← bl_len, hex]; omega)).mono ?_
            rintro r w1 ⟨rfl, rfl⟩
            rw [hex]
            refine ⟨_, _, rfl, ?_⟩
            have etext : s.extract k (k + t.length) = ba t := (ba_bl _).symm.trans (congrArg ba hex)
            rcases hx : exam t with ⟨kd, e⟩
            simp only [hx]
            refine sel_ne (fun he => ?_) (fun he => ?_)
            · by_cases hst : startB c = true
              · rw [if_pos hst, if_pos he]
                exact ⟨rfl, he, H.fr⟩
              · rw [if_neg hst]
                have := hdash (by simpa using hst)
                rw [hx] at this
                cases this
                exact ⟨rfl, he, H.fr⟩
            · have hst : startB c = true := by
                by_cases hst : startB c = true
                · exact hst
                · have := hdash (by simpa using hst)
                  rw [hx] at this
                  cases this; exact absurd he (by decide)
              rw [if_pos hst, if_neg (by simpa using he)]
              have fine : ∀ {w' : World}, LH F0 w0 w' [.row ty_enthymemeref09_Token 3 out (toksC acc)] [] → enthymemeref09_Tokens.S35 s (ba [9, 10, 13, 32]) out (k : Int) ((k + t.length : Nat) : Int) kd w' (TksEnd w0 acc ((toks n (k + t.length) ((c :: l).drop t.length)).push ⟨kd, t, k⟩)) := fun H' => by
                refine ⟨by omega, by omega, by omega, by rw [Int.toNat_natCast]; omega, ?_⟩
                rw [Int.toNat_natCast, Int.toNat_natCast, etext]
                refine H'.ap1 0 el_rtoks rfl (fun t' w4 H4 _ _ => ?_) (by omega)
                exact more ⟨kd, t, k⟩ t' w4 t.length ht1 (by simpa using htl) H4
              refine H.dr fun w2 H2 => sel_dec (fun hlt => ?_) (fun hlt => ?_)
              · obtain ⟨x, l', hx'⟩ : ∃ x l', (bl s).drop (k + t.length) = x :: l' := by
                  cases hd : (bl s).drop (k + t.length) with
                  | nil => have := nil_drop hd; omega
                  | cons c l => exact ⟨c, l, rfl⟩
                refine ⟨by omega, x, by rw [Int.toNat_natCast]; exact (get_drop hx').1, by decide, H2.nwx fun w3 _ H3 hb => ?_⟩
                have hcv : Sem.run Try.prog (Go.convert ty_sl_uint8 ty_string (.slice (some (Addr.mk w2.heap.size 0 none)) 1 1)) w3 = .ok (.string (ba [34])) w3 := by
                  have hrd : Rd w3 ⟨some (at0 w2.heap.size), 1, 1⟩ (([34] : List UInt8).map byteV) := rd_block (vs := List.map byteV _) hb rfl
                  exact bytes_str (s := ⟨some (at0 w2.heap.size), 1, 1⟩) (bs := [34]) hrd
                refine ⟨_, hcv, by decide, (r_in x _ (by decide) w3).mono ?_⟩
                rintro r w4 ⟨rfl, rfl⟩
                refine ⟨_, rfl, hcv, ?_⟩
                rw [show (bl ((ba [9, 10, 13, 32] ++ ByteArray.mk #[59, 40, 41]) ++ ba [34])).contains x = followB x from by rw [bl_app, bl_app]; exact c_follow x]
                rw [← hdr, hx']
                refine sel_not (fun hf => ?_) (fun hf => ?_)
                · simp only [hf]
                  exact ⟨rfl, by omega, H3.fr⟩
                · simp only [hf, if_true]
                  exact fine H3
              · have : (bl s).drop (k + t.length) = [] := List.drop_of_length_le (by rw [bl_len]; omega)
                have hd2 : (c :: l).drop t.length = [] := by rw [← hdr]; exact this
                have f := fine H2
                simp only [hd2] at f ⊢
                exact f
theorem r_Tokens (s : ByteArray) (hsm : s.size ≤ 1000000) (w : World) : Calls Try.prog n_enthymemeref09_Tokens #[.string s] w (TksEnd w [] (tokens (bl s))) := by
  unfold tokens
  refine enthymemeref09_Tokens.ok _ w _ (sel_dec (fun h => ?_) (fun h => ?_))
  · rw [if_pos (by rw [bl_len]; omega)]
    exact ⟨rfl, by omega, Fr.refl _ _⟩
  · rw [if_neg (by rw [bl_len]; omega)]
    refine (LH.start (M := F0) [] (by simp)).nwx fun w1 _ H1 hb => ?_
    have hrd : Rd w1 ⟨some (at0 w.heap.size), 4, 4⟩ (([9, 10, 13, 32] : List UInt8).map byteV) := rd_block (vs := List.map byteV _) hb rfl
    refine ⟨ba [9, 10, 13, 32], bytes_str (s := ⟨some (at0 w.heap.size), 4, 4⟩) (bs := [9, 10, 13, 32]) hrd, ?_⟩
    exact r_Tokens_loop s hsm w ((bl s).length + 1) _ 0 (bl s) [] ⟨none, 0, 0⟩ w1 (by omega) (by omega) rfl (by omega) (by simp) (H1.nilrow _ _)
end Go.Proofs.Ytemagdpieebjlaa
