/- Package lexer: the contracts of quoted, bare and Quote. -/
import Derived.Test.YtemagdpieebjlaaLD
import Derived.Test.YtemagdpieebjlaaVS
import Derived.Test.YtemagdpieebjlaaZ
namespace Go.Proofs.Ytemagdpieebjlaa
open Go Go.W

def QuL (k : Nat) (acc : List UInt8) (w : World) : QR → Post
  | .ok t u => fun r w' => r = .returned (.tuple #[.string (ba (acc ++ t)), .int .i64 ((k + u : Nat) : Int), .agg #[.int .i64 0, .int .i64 0]]) ∧ Fr0 w w'
  | .bad a e => fun r w' => (∃ x y, r = .returned (.tuple #[.string x, .int .i64 y, .agg #[.int .i64 e, .int .i64 ((k + a : Nat) : Int)]])) ∧ Fr0 w w'
theorem item_len {l : List UInt8} {d : UInt8} {u : Nat} (h : item1 l = .ok d u) : 1 ≤ u ∧ u ≤ l.length := by
  unfold item1 at h
  cases l with
  | nil => cases h
  | cons c l =>
    simp only [] at h
    split at h
    · split at h
      · cases h
      · cases h; simp
    · cases l with
      | nil => cases h
      | cons x l =>
        simp only [] at h
        split at h
        · cases h; simp
        · split at h
          · cases h
          · cases l with
            | nil => cases h
            | cons y l =>
              simp only [] at h
              split at h
              · cases l with
                | nil => cases h
                | cons z l =>
                  simp only [] at h
                  split at h
                  · cases h; simp
                  · cases h
              · cases h
theorem item_err {l : List UInt8} {a : Nat} {e : Int} (h : item1 l = .bad a e) : e = 2 ∨ e = 3 := by
  unfold item1 at h
  split at h
  · cases h; simp
  · split at h
    · split at h <;> cases h; simp
    · split at h
      · cases h; simp
      · split at h
        · cases h
        · split at h
          · cases h; simp
          · split at h
            · cases h; simp
            · split at h
              · split at h
                · cases h; simp
                · split at h <;> cases h; simp
              · cases h; simp
theorem QuL_push (k : Nat) (acc : List UInt8) (w : World) (d : UInt8) (u : Nat) (q : QR) : QuL k acc w (q.push d u) = QuL (k + u) (acc ++ [d]) w q := by
  cases q <;> simp [QuL, QR.push, Nat.add_assoc]
theorem l_quoted_loop (s : ByteArray) (hsm : s.size ≤ 1000000) (w0 : World) (b : Nat) : ∀ (n k : Nat) (l acc : List UInt8) (xs : List Value) (text : Sl) (w : World), l.length < n → (bl s).drop k = l → k + l.length = s.size → acc.length ≤ k → xs = acc.map byteV →
    LH F0 w0 w [.c b [.int .i64 0, .int .i64 0] ty_lexer_fault, .row ty_uint8 1 text xs] [] → lexer_quoted.L3 s (k : Int) (at0 b) text w (QuL k acc w0 (qu l)) := by
  intro n
  induction n with
  | zero => intro k l acc xs text w hn; omega
  | succ n ih =>
    intro k l acc xs text w hn hl hk ha hx H
    cases l with
    | nil =>
      refine lexer_quoted.L3_step _ _ _ _ _ _ (sel_false (decide_eq_false (by simp at hk; omega)) ?_)
      refine H.st2 0 rfl fun w' H' => ⟨_, _, H'.ld 0 0, H'.ld 0 1, ⟨ByteArray.mk #[], 0, ?_⟩, H'.fr⟩
      simp at hk; simp [hk]
    | cons c l =>
      have hk' : k < s.size := by simp at hk; omega
      have gc : s[k]? = some c := by
        have := bl_get (s := s) (l := bl s) rfl k
        rw [this, ← List.head?_drop, hl]; rfl
      have htl : OwnRow w ty_uint8 1 text (acc.map byteV) := hx ▸ H.get 1
      have tn : text.n = acc.length := by have := OwnRow.len htl; simp at this; omega
      refine lexer_quoted.L3_step _ _ _ _ _ _ (sel_true (decide_eq_true (by omega)) ⟨by omega, c, by rw [Int.toNat_natCast]; exact gc, sel_intro (fun h34 => ?_) (fun h34 => ?_)⟩)
      · have e34 : c.toNat = 34 := by have : ((c.toNat : Nat) : Int) = 34 := by simpa using h34
                                      omega
        have e : qu (c :: l) = .ok [] 1 := by unfold qu; rw [if_pos e34]
        rw [e]
        refine ⟨_, bytes_str (OwnRow.rd1 htl), H.st2 0 rfl fun w' H' => ⟨_, _, H'.ld 0 0, H'.ld 0 1, ?_, H'.fr⟩⟩
        rw [i64_next k (by omega), List.append_nil]
      · have n34 : c.toNat ≠ 34 := fun e => by rw [e] at h34; simp at h34
        rw [qu_item c l n34]
        refine (l_item s k c l hl hsm w).mono ?_
        intro r w1 hp
        cases hi : item1 (c :: l) with
        | bad a e =>
          rw [hi] at hp
          obtain ⟨⟨x, y, rfl⟩, f1⟩ := hp
          have he := item_err hi
          refine ⟨_, _, _, _, rfl, (H.fr0 f1).nw fun w2 _ H2 => H2.st2 2 rfl fun w3 H3 => ⟨_, H3.ld 2 0, sel_true (by rcases he with rfl | rfl <;> rfl) ?_⟩⟩
          exact H3.dr fun w4 H4 => ⟨_, _, H4.ld 2 0, H4.ld 2 1, H4.st2 0 rfl fun w5 H5 => ⟨_, _, H5.ld 0 0, H5.ld 0 1, ⟨_, _, rfl⟩, H5.fr⟩⟩
        | ok d u =>
          rw [hi] at hp
          obtain ⟨rfl, f1⟩ := hp
          obtain ⟨hu1, hu2⟩ := item_len hi
          refine ⟨_, _, _, _, rfl, (H.fr0 f1).nw fun w2 _ H2 => H2.st2 2 rfl fun w3 H3 => ⟨_, H3.ld 2 0, sel_false rfl ?_⟩⟩
          refine H3.ap1 1 el_bytes rfl (fun t w4 H4 _ _ => ?_) (by omega)
          simp only [QuL_push]
          exact ih (k + u) ((c :: l).drop u) (acc ++ [d]) _ t w4 (by simp at hn ⊢; omega) (by rw [← hl, List.drop_drop]) (by simp at hu2 hk ⊢; omega) (by simp; omega) (by simp [hx, byteV]) (H4.take 2)
theorem l_quoted (s : ByteArray) (i : Nat) (c : UInt8) (l : List UInt8) (hl : (bl s).drop i = c :: l) (hsm : s.size ≤ 1000000) (w : World) : Calls Try.prog n_lexer_quoted #[.string s, .int .i64 (i : Int)] w (QuL (i + 1) [] w (qu l)) := by
  have hlen : i + (c :: l).length = s.size := by
    have := congrArg List.length hl
    rw [List.length_drop, bl_len] at this
    simp at this ⊢
    omega
  refine lexer_quoted.ok _ _ w _ ((LH.start (M := F0) [] (by simp)).nw fun w1 _ H1 => ?_)
  show lexer_quoted.L3 s (IntKind.wrap .i64 ((i : Int) + 1)) (at0 w.heap.size) ⟨none, 0, 0⟩ w1 _
  rw [i64_next i (by simp at hlen; omega)]
  refine l_quoted_loop s hsm w _ (l.length + 1) (i + 1) l [] [] ⟨none, 0, 0⟩ w1 (by omega) ?_ (by simp at hlen ⊢; omega) (by simp) rfl (H1.nilrow _ _)
  rw [← List.drop_drop, hl]; rfl
end Go.Proofs.Ytemagdpieebjlaa
