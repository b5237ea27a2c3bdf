/- The reference's lexer: the contracts of value and quoted. -/
import Derived.Test.YtemagdpieebjlaaM1
namespace Go.Proofs.Ytemagdpieebjlaa
open Go Go.W

theorem r_value (c : UInt8) (w : World) : Calls Try.prog n_enthymemeref09_value #[.int .u8 (c.toNat : Int)] w fun r w' => r = .returned (.int .i64 (if digB 16 c then (hexV c : Int) else -1)) ∧ w = w' := by
  refine enthymemeref09_value.ok _ w _ ?_
  have loop : ∀ (d k : Nat), k + d = 16 → ∀ R : Post, R (.returned (.int .i64 (Go.Lib.indexByte ((digitsL ++ [97, 98, 99, 100, 101, 102]).drop k) c + (if (digitsL ++ [97, 98, 99, 100, 101, 102]).drop k |>.contains c then (k : Int) else 0)))) w → enthymemeref09_value.L3 (c.toNat : Int) (ByteArray.mk #[48, 49, 50, 51, 52, 53, 54, 55, 56, 57, 97, 98, 99, 100, 101, 102]) (k : Int) w R := by
    intro d
    induction d with
    | zero =>
      intro k hk R hR
      obtain rfl : k = 16 := by omega
      exact enthymemeref09_value.L3_step _ _ _ _ _ (sel_false rfl hR)
    | succ d ih =>
      intro k hk R hR
      have hk16 : k < 16 := by omega
      obtain ⟨b, hb⟩ : ∃ b, (digitsL ++ [97, 98, 99, 100, 101, 102])[k]? = some b := ⟨_, List.getElem?_eq_getElem (by simp; omega)⟩
      have hdrop : (digitsL ++ [97, 98, 99, 100, 101, 102]).drop k = b :: (digitsL ++ [97, 98, 99, 100, 101, 102]).drop (k + 1) := by
        rw [← List.getElem?_eq_some_iff.1 hb |>.2]
        exact List.drop_eq_getElem_cons _
      have gb : (ByteArray.mk #[48, 49, 50, 51, 52, 53, 54, 55, 56, 57, 97, 98, 99, 100, 101, 102])[Int.toNat (k : Int)]? = some b := by
        rw [Int.toNat_natCast, bl_get (l := digitsL ++ [97, 98, 99, 100, 101, 102]) rfl]; exact hb
      refine enthymemeref09_value.L3_step _ _ _ _ _ (sel_true (decide_eq_true (by omega)) ⟨by omega, b, gb, sel_eq (fun h => ?_) (fun h => ?_)⟩)
      · have : b = c := UInt8.toNat_inj.1 (by omega)
        subst this
        rw [hdrop] at hR
        simpa [Go.Lib.indexByte] using hR
      · have hbc : ¬ b = c := fun e => by subst e; exact h rfl
        show enthymemeref09_value.L3 _ _ (IntKind.wrap .i64 ((k : Int) + 1)) _ _
        rw [i64_next k (by omega)]
        refine ih (k + 1) (by omega) R ?_
        rw [hdrop] at hR
        have e1 : (b :: (digitsL ++ [97, 98, 99, 100, 101, 102]).drop (k + 1)).contains c = ((digitsL ++ [97, 98, 99, 100, 101, 102]).drop (k + 1)).contains c := by
          rw [List.contains_cons, show (c == b) = false from by simpa using fun e => hbc e.symm, Bool.false_or]
        rw [e1] at hR
        generalize (digitsL ++ [97, 98, 99, 100, 101, 102]).drop (k + 1) = l at *
        have hm := indexByte_mem l c
        have hge := Go.Lib.indexByte_ge l c
        by_cases hc : l.contains c = true
        · have h0 : 0 ≤ Go.Lib.indexByte l c := by rw [hm]; simpa using hc
          rw [if_pos hc] at hR ⊢
          have e2 : Go.Lib.indexByte (b :: l) c = Go.Lib.indexByte l c + 1 := by
            conv => lhs; unfold Go.Lib.indexByte
            rw [if_neg (by simpa using hbc), if_neg (by simp; omega)]
          rw [e2] at hR
          have : Go.Lib.indexByte l c + 1 + (k : Int) = Go.Lib.indexByte l c + ((k + 1 : Nat) : Int) := by omega
          rw [this] at hR
          exact hR
        · have h0 : ¬ 0 ≤ Go.Lib.indexByte l c := by rw [hm]; simpa using hc
          rw [if_neg hc] at hR ⊢
          have e2 : Go.Lib.indexByte (b :: l) c = Go.Lib.indexByte l c := by
            have e3 : Go.Lib.indexByte l c = -1 := by omega
            conv => lhs; unfold Go.Lib.indexByte
            rw [if_neg (by simpa using hbc)]
            simp only [e3]
            rfl
          rw [e2] at hR
          exact hR
  refine loop 16 0 rfl _ ⟨?_, rfl⟩
  have : Go.Lib.indexByte ((digitsL ++ [97, 98, 99, 100, 101, 102]).drop 0) c + (if (digitsL ++ [97, 98, 99, 100, 101, 102]).drop 0 |>.contains c then ((0 : Nat) : Int) else 0) = (if digB 16 c then (hexV c : Int) else -1) :=
    all_bytes (p := fun c => Go.Lib.indexByte ((digitsL ++ [97, 98, 99, 100, 101, 102]).drop 0) c + (if (digitsL ++ [97, 98, 99, 100, 101, 102]).drop 0 |>.contains c then ((0 : Nat) : Int) else 0) = (if digB 16 c then (hexV c : Int) else -1)) (by decide +kernel) c
  rw [this]
def QuR (k : Nat) (acc : List UInt8) (w : World) : QR → Post
  | .ok t u => fun r w' => r = .returned (.tuple #[.string (ba (acc ++ t)), .int .i64 ((k + u : Nat) : Int), .int .i64 0]) ∧ Fr0 w w'
  | .bad a e => fun r w' => (∃ x, r = .returned (.tuple #[.string x, .int .i64 ((k + a : Nat) : Int), .int .i64 e])) ∧ Fr0 w w'
theorem QuR_push (k : Nat) (acc : List UInt8) (w : World) (d : UInt8) (u : Nat) (q : QR) : QuR k acc w (q.push d u) = QuR (k + u) (acc ++ [d]) w q := by
  cases q <;> simp [QuR, QR.push, Nat.add_assoc]
theorem i64_add (i j : Nat) (h : i + j < 9223372036854775807) : IntKind.wrap .i64 ((i : Int) + (j : Int)) = ((i + j : Nat) : Int) := by rw [IntWalk.i64_in _ (by omega)]; omega
theorem hexV_lt (c : UInt8) : digB 16 c = true → hexV c < 16 := all_bytes (p := fun c => digB 16 c = true → hexV c < 16) (by decide +kernel) c
theorem r_quoted_loop (s : ByteArray) (hsm : s.size ≤ 1000000) (w0 : World) : ∀ (n k : Nat) (l acc : List UInt8) (xs : List Value) (out : Sl) (w : World), l.length < n → (bl s).drop k = l → k + l.length = s.size → acc.length ≤ k → xs = acc.map byteV →
    LH F0 w0 w [.row ty_uint8 1 out xs] [] → enthymemeref09_quoted.L3 s out (k : Int) w (QuR k acc w0 (qu l)) := by
  intro n
  induction n with
  | zero => intro k l acc xs out w hn; omega
  | succ n ih =>
    intro k l acc xs out w hn hl hk ha hx H
    cases l with
    | nil =>
      refine enthymemeref09_quoted.L3_step _ _ _ _ _ (sel_false (decide_eq_false (by simp at hk; omega)) ⟨⟨ByteArray.mk #[], ?_⟩, H.fr⟩)
      simp at hk; simp [hk]
    | cons c l =>
      obtain ⟨gc, hl1, hsz⟩ := get_drop hl
      have htl : OwnRow w ty_uint8 1 out (acc.map byteV) := hx ▸ H.get 0
      have tn : out.n = acc.length := by have := OwnRow.len htl; simp at this; omega
      refine enthymemeref09_quoted.L3_step _ _ _ _ _ (sel_true (decide_eq_true (by omega)) ⟨by omega, c, by rw [Int.toNat_natCast]; exact gc, sel_eq (fun h34 => ?_) (fun h34 => ?_)⟩)
      · unfold qu
        rw [if_pos (by omega)]
        refine ⟨_, bytes_str (OwnRow.rd1 htl), ?_, H.fr⟩
        rw [i64_next k (by omega), List.append_nil]
      · have n34 : ¬ c.toNat = 34 := by omega
        have next : ∀ (d : UInt8) (u : Nat) (w' : World) (out' : Sl), 1 ≤ u → u ≤ l.length + 1 → LH F0 w0 w' [.row ty_uint8 1 out' (xs ++ [byteV d])] [] → enthymemeref09_quoted.L3 s out' ((k + u : Nat) : Int) w' (QuR k acc w0 ((qu ((c :: l).drop u)).push d u)) := fun d u w' out' h1 h2 H' => by
          rw [QuR_push]
          exact ih (k + u) ((c :: l).drop u) (acc ++ [d]) _ out' w' (by simp at hn ⊢; omega) (by rw [← hl, List.drop_drop]) (by simp at hk ⊢; omega) (by simp; omega) (by simp [hx]) H'
        unfold qu
        rw [if_neg n34]
        by_cases h92 : c.toNat = 92
        · rw [if_neg (by simpa using h92)]
          refine sel_dec (fun h => by omega) (fun _ => sel_dec (fun h => by omega) (fun _ => sel_ne (fun h => by omega) (fun _ => ?_)))
          have e1 := i64_next k (by omega)
          refine sel_eq (fun h => ?_) (fun h => ?_)
          · rw [e1] at h
            obtain rfl : l = [] := List.eq_nil_of_length_eq_zero (by omega)
            refine ⟨⟨ByteArray.mk #[], ?_⟩, H.fr⟩
            rw [show k + 1 = s.size from by simp at hk; omega]
          · rw [e1] at h
            cases l with
            | nil => exfalso; simp at hk; omega
            | cons d l2 =>
              obtain ⟨gd, hl2, hsz2⟩ := get_drop hl1
              simp only []
              refine ⟨by rw [e1]; omega, d, by rw [e1, Int.toNat_natCast]; exact gd, ?_⟩
              have two : (d.toNat = 34 ∨ d.toNat = 92) → enthymemeref09_quoted.S17 s out (k : Int) (d.toNat : Int) w (QuR k acc w0 ((qu l2).push d 2)) := fun _ => by
                refine H.ap1 0 el_bytes rfl (fun t w4 H4 _ _ => ?_) (by omega)
                show enthymemeref09_quoted.L3 s t (IntKind.wrap .i64 ((k : Int) + ((2 : Nat) : Int))) _ _
                rw [i64_add k 2 (by omega)]
                exact next d 2 w4 t (by omega) (by simp) H4
              refine sel_eq (fun h1 => ?_) (fun h1 => sel_eq (fun h2 => ?_) (fun h2 => ?_))
              · rw [if_pos (.inl (by omega))]; exact two (.inl (by omega))
              · rw [if_pos (.inr (by omega))]; exact two (.inr (by omega))
              · rw [if_neg (by omega)]
                refine sel_ne (fun h3 => ?_) (fun h3 => ?_)
                · rw [if_pos (by omega)]
                  exact ⟨⟨_, rfl⟩, H.fr⟩
                · rw [if_neg (by omega)]
                  have ek : ∀ j : Nat, j ≤ 4 → IntKind.wrap .i64 ((k : Int) + (j : Int)) = ((k + j : Nat) : Int) := fun j hj => i64_add k j (by omega)
                  show enthymemeref09_quoted.L23 s out (k : Int) 0 ((2 : Nat) : Int) w _
                  refine enthymemeref09_quoted.L23_step _ _ _ _ _ _ _ (sel_true rfl (sel_dec (fun h4 => ?_) (fun h4 => ?_)))
                  · rw [ek 2 (by omega)] at h4
                    obtain rfl : l2 = [] := List.eq_nil_of_length_eq_zero (by simp at hk; omega)
                    refine ⟨⟨ByteArray.mk #[], ?_⟩, H.fr⟩
                    rw [show k + 2 = s.size from by simp at hk; omega]
                  · rw [ek 2 (by omega)] at h4
                    cases l2 with
                    | nil => exfalso; simp at hk; omega
                    | cons x l3 =>
                      obtain ⟨gx, hl3, hsz3⟩ := get_drop hl2
                      simp only []
                      refine ⟨by rw [ek 2 (by omega)]; omega, x, by rw [ek 2 (by omega), Int.toNat_natCast]; exact gx, (r_value x w).mono ?_⟩
                      rintro r w1 ⟨rfl, rfl⟩
                      refine ⟨_, rfl, ?_⟩
                      by_cases hx16 : digB 16 x = true
                      · have hxl := hexV_lt x hx16
                        simp only [hx16, if_true]
                        refine sel_false (decide_eq_false (by omega)) ?_
                        have e5 : IntKind.wrap .i64 (IntKind.wrap .i64 (16 * 0) + (hexV x : Int)) = (hexV x : Int) := by rw [IntWalk.i64_in (16 * 0) (by omega), IntWalk.i64_in _ (by omega)]; omega
                        show enthymemeref09_quoted.L23 s out (k : Int) (IntKind.wrap .i64 (IntKind.wrap .i64 (16 * 0) + (hexV x : Int))) (IntKind.wrap .i64 (((2 : Nat) : Int) + 1)) w _
                        rw [e5, i64_next 2 (by omega)]
                        refine enthymemeref09_quoted.L23_step _ _ _ _ _ _ _ (sel_true rfl (sel_dec (fun h4 => ?_) (fun h4 => ?_)))
                        · rw [ek 3 (by omega)] at h4
                          obtain rfl : l3 = [] := List.eq_nil_of_length_eq_zero (by simp at hk; omega)
                          refine ⟨⟨ByteArray.mk #[], ?_⟩, H.fr⟩
                          rw [show k + 3 = s.size from by simp at hk; omega]
                        · rw [ek 3 (by omega)] at h4
                          cases l3 with
                          | nil => exfalso; simp at hk; omega
                          | cons y l4 =>
                            obtain ⟨gy, hl4, hsz4⟩ := get_drop hl3
                            simp only []
                            refine ⟨by rw [ek 3 (by omega)]; omega, y, by rw [ek 3 (by omega), Int.toNat_natCast]; exact gy, (r_value y w).mono ?_⟩
                            rintro r w1 ⟨rfl, rfl⟩
                            refine ⟨_, rfl, ?_⟩
                            by_cases hy16 : digB 16 y = true
                            · have hyl := hexV_lt y hy16
                              simp only [hy16, if_true]
                              refine sel_false (decide_eq_false (by omega)) ?_
                              have e6 : IntKind.wrap .i64 (IntKind.wrap .i64 (16 * (hexV x : Int)) + (hexV y : Int)) = ((16 * hexV x + hexV y : Nat) : Int) := by rw [IntWalk.i64_in (16 * (hexV x : Int)) (by omega), IntWalk.i64_in _ (by omega)]; omega
                              show enthymemeref09_quoted.L23 s out (k : Int) (IntKind.wrap .i64 (IntKind.wrap .i64 (16 * (hexV x : Int)) + (hexV y : Int))) (IntKind.wrap .i64 (((3 : Nat) : Int) + 1)) w _
                              rw [e6, i64_next 3 (by omega)]
                              refine enthymemeref09_quoted.L23_step _ _ _ _ _ _ _ (sel_false rfl ?_)
                              have e7 : IntKind.wrap .u8 ((16 * hexV x + hexV y : Nat) : Int) = (((UInt8.ofNat (16 * hexV x + hexV y)).toNat : Nat) : Int) := by
                                rw [IntKind.wrap_u8, UInt8.toNat_ofNat']; omega
                              unfold enthymemeref09_quoted.S32
                              rw [e7]
                              refine H.ap1 0 el_bytes rfl (fun t w4 H4 _ _ => ?_) (by omega)
                              show enthymemeref09_quoted.L3 s t (IntKind.wrap .i64 ((k : Int) + ((4 : Nat) : Int))) _ _
                              rw [i64_add k 4 (by omega)]
                              exact next _ 4 w4 t (by omega) (by simp) H4
                            · simp only [hy16, if_false]
                              exact sel_true rfl ⟨⟨_, rfl⟩, H.fr⟩
                      · simp only [hx16, if_false]
                        exact sel_true rfl ⟨⟨_, rfl⟩, H.fr⟩
        · rw [if_pos (by simpa using h92)]
          refine sel_dec (fun h => ?_) (fun h1 => sel_dec (fun h => ?_) (fun h2 => sel_ne (fun _ => ?_) (fun h => by omega)))
          · rw [if_pos (.inl (by omega))]; exact ⟨⟨_, rfl⟩, H.fr⟩
          · rw [if_pos (.inr (by omega))]; exact ⟨⟨_, rfl⟩, H.fr⟩
          · rw [if_neg (by omega)]
            refine H.ap1 0 el_bytes rfl (fun t w4 H4 _ _ => ?_) (by omega)
            show enthymemeref09_quoted.L3 s t (IntKind.wrap .i64 ((k : Int) + 1)) _ _
            rw [i64_next k (by omega)]
            exact next c 1 w4 t (by omega) (by simp) H4
theorem r_quoted (s : ByteArray) (i : Nat) (c : UInt8) (l : List UInt8) (hl : (bl s).drop i = c :: l) (hsm : s.size ≤ 1000000) (w : World) : Calls Try.prog n_enthymemeref09_quoted #[.string s, .int .i64 (i : Int)] w (QuR (i + 1) [] w (qu l)) := by
  obtain ⟨_, hl1, hsz⟩ := get_drop hl
  refine enthymemeref09_quoted.ok _ _ w _ ?_
  show enthymemeref09_quoted.L3 s ⟨none, 0, 0⟩ (IntKind.wrap .i64 ((i : Int) + 1)) w _
  rw [i64_next i (by omega)]
  exact r_quoted_loop s hsm w (l.length + 1) (i + 1) l [] [] ⟨none, 0, 0⟩ w (by omega) hl1 (by omega) (by simp) rfl ((LH.start (M := F0) [] (by simp)).nilrow _ _)
end Go.Proofs.Ytemagdpieebjlaa
