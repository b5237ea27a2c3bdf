/- LexerBytes: what the law does. -/
import Derived.Test.YtemagdpieebjlaaLM
import Derived.Test.YtemagdpieebjlaaRF
import Derived.Test.YtemagdpieebjlaaWN
import Derived.Test.YtemagdpieebjlaaHS
import Derived.Test.YtemagdpieebjlaaVE
namespace Go.Proofs.Ytemagdpieebjlaa
open Go Go.W
namespace Byt

theorem nums_lt {w : World} {s : Sl} {l : List Int} (h : Nums w s l) (hl : l ≠ []) : ∀ x ∈ blkL s, x < w.heap.size := fun x hx => by
  have hne : ¬ l.map intV = [] := by simpa using hl
  exact (En.rd s (l.map intV)).lt w h x (by show x ∈ (if l.map intV = [] then [] else blkL s); rw [if_neg hne]; exact hx)
theorem w_ints' {w : World} {wb : Nat} {bs : List UInt8} {own : List Nat} (hr : WrRep w wb bs own) {s : Sl} {l : List Int} (hb : Nums w s l) (hd : l ≠ [] → ∀ x ∈ blkL s, x ∉ own) (hi : ∀ x ∈ l, I64 x) (hl : bs.length + 10 * l.length ≤ 1000000000000) :
    Calls Try.prog n_wire_Writer_Ints #[.pointer (some (at0 wb)), s.v] w (WrPost w wb own (bs ++ encL l)) := by
  by_cases hne : l = []
  · subst hne
    refine wire_Writer_Ints.ok _ _ w _ ?_
    unfold wire_Writer_Ints.S0
    rw [Nums.len hb, u64_nat _ (by simp)]
    refine (w_uint hr 0 (by omega) (by simp at hl; omega)).mono ?_
    rintro r w1 ⟨rfl, own1, r1, f1, o1⟩
    refine ⟨rfl, ?_⟩
    unfold wire_Writer_Ints.S1
    rw [Nums.len hb]
    refine wire_Writer_Ints.L2_step _ _ _ _ _ _ (sel_false (by simp) ⟨rfl, ?_⟩)
    have := (WrAt.refl r1).then f1 o1
    unfold encL
    simpa using this
  · exact w_ints hr hb (hd hne) (nums_lt hb hne) hi hl
theorem tokens_two (b h : List UInt8) (hl : (quoteB b ++ [32] ++ quoteB h).length ≤ 65536) : tokens (quoteB b ++ [32] ++ quoteB h) = .ok [⟨5, b, 0⟩, ⟨5, h, (quoteB b).length + 1⟩, ⟨6, [], (quoteB b).length + 1 + (quoteB h).length⟩] := by
  refine of_lex ?_ hl
  have sk : ∀ (t r : List UInt8), skipN false (quoteB t ++ r) = 0 := fun t r => rfl
  have n1 := next1_quote b ([32] ++ quoteB h)
  have n2 := next1_quote h []
  rw [List.append_nil] at n2
  rw [List.append_assoc]
  have s2 := sk h []
  rw [List.append_nil] at s2
  have three : Lex ((quoteB b).length + 1 + (quoteB h).length) [] [⟨6, [], (quoteB b).length + 1 + (quoteB h).length⟩] := .fin rfl
  have two : Lex ((quoteB b).length + 1) (quoteB h) [⟨5, h, (quoteB b).length + 1 + skipN false (quoteB h)⟩, ⟨6, [], (quoteB b).length + 1 + (quoteB h).length⟩] := by
    refine .tok (by rw [s2]; exact n2) ?_
    rw [s2, List.drop_zero, List.drop_length]
    exact three
  rw [s2] at two
  have one := lex_blank blank1 (i := (quoteB b).length) two rfl
  have := Lex.tok (i := 0) (l := quoteB b ++ ([32] ++ quoteB h)) (by rw [sk]; exact n1) (by rw [sk, List.drop_zero, List.drop_left, Nat.zero_add]; exact one)
  rw [sk] at this
  exact this
theorem quote_len (b : List UInt8) : (quoteB b).length ≤ 4 * b.length + 2 := by
  have := (esc_len b).2
  unfold quoteB
  simp only [List.length_append, List.length_cons, List.length_nil]
  omega
theorem walk (ls : Sl) (n : Int) (w : World) (hls : ArgNums w ls) (hn : U64 n) :
    Calls Try.prog n_enthymemelaw09_LexerBytes #[ls.v, .int .u64 n] w fun r w' => r = .returned (.bool true) ∧ Fr0 w w' := by
  obtain ⟨xs, hls, hl, hx⟩ := hls
  obtain ⟨n, rfl⟩ := Int.eq_ofNat_of_zero_le hn.1
  have hn' : n < 18446744073709551616 := by have := hn.2; omega
  have hln := Nums.len hls
  have hlc := hls.2.1
  obtain ⟨k, hk, hk2⟩ : ∃ k : Nat, (if 40 < ((ls.n : Nat) : Int) then (40 : Int) else ((ls.n : Nat) : Int)) = (k : Int) ∧ k ≤ 40 ∧ k ≤ xs.length := by
    split
    · exact ⟨40, rfl, by omega, by omega⟩
    · exact ⟨ls.n, rfl, by omega, by omega⟩
  have hsub : Nums w (sub ls 0 k) (xs.take k) := by
    have := Rd.sub hls 0 k (Nat.zero_le _) (by simpa using hk2.2)
    unfold Nums
    rw [List.map_take]
    simpa using this
  have hxk : ∀ x ∈ xs.take k, I64 x := fun x h => hx x (List.mem_of_mem_take h)
  have hkl : (xs.take k).length ≤ 40 := by simp; omega
  generalize xs.take k = ys at hsub hxk hkl
  refine enthymemelaw09_LexerBytes.ok _ _ w _ ?_
  have f1 : Fr0 w (w.alloc (.cells #[.slice none 0 0] ty_wire_Writer)) := Fr.alloc _ _ _
  have r1 := WrRep.new w
  refine (?_ : enthymemelaw09_LexerBytes.S2 ls (n : Int) (at0 w.heap.size) (w.alloc (.cells #[.slice none 0 0] ty_wire_Writer)) _)
  generalize w.alloc (.cells #[.slice none 0 0] ty_wire_Writer) = w1 at f1 r1 ⊢
  have n1 : ∀ z ∈ [w.heap.size], w.heap.size ≤ z := by simp
  show (0 : Int) ≤ _ ∧ _
  rw [hk]
  simp only [Int.toNat_natCast]
  refine ⟨by omega, by omega, (w_ints' (s := sub ls 0 k) r1 (hsub.fr0 f1) (fun hne x hx' hm => by simp at hm; have := nums_lt hsub hne x hx'; omega) hxk (by simp; omega)).mono ?_⟩
  rintro r w2 ⟨rfl, own2, r2, g2, o2⟩
  have f2 := fr_own f1 n1 g2
  have n2 := new_own f1 n1 o2
  have lL : (encL ys).length ≤ 410 := by
    unfold encL
    have h1 := encU_len10 ys.length (by omega)
    have h2 := flat_len ys hxk
    simp only [List.length_append]
    omega
  have lU := encU_len10 n hn'
  rw [List.nil_append] at r2
  refine ⟨rfl, (w_uint r2 n hn' (by omega)).mono ?_⟩
  rintro r w3 ⟨rfl, own3, r3, g3, o3⟩
  have f3 := fr_own f2 n2 g3
  have n3 := new_own f2 n2 o3
  have lB : (encL ys ++ encU n).length ≤ 420 := by rw [List.length_append]; omega
  refine ⟨rfl, (w_done r3 (by omega)).mono ?_⟩
  rintro r w4 ⟨b, rfl, b4, f4, _⟩
  have F4 := f3.tr0 f4
  refine ⟨b, rfl, _, bytes_str b4.rd, (l_Quote _ (by rw [ba_size]; omega) w4).mono ?_⟩
  rintro r w5 ⟨rfl, f5⟩
  rw [bl_ba]
  have q1 := quote_len (encL ys ++ encU n)
  rw [if_neg (by omega), if_neg (by omega)]
  refine ⟨_, _, rfl, ?_⟩
  have f6 : Fr0 w5 (w5.alloc (.cells #[.slice none 0 0] ty_wire_Writer)) := Fr.alloc _ _ _
  have r6 := WrRep.new w5
  refine (?_ : enthymemelaw09_LexerBytes.S7 ls (n : Int) b _ _ (at0 w5.heap.size) (w5.alloc (.cells #[.slice none 0 0] ty_wire_Writer)) _)
  generalize w5.alloc (.cells #[.slice none 0 0] ty_wire_Writer) = w6 at f6 r6 ⊢
  have F5 := F4.tr0 f5
  have b6 := b4.fr0 (f5.tr0 f6)
  refine (h_bytes _ b6.rd b6.lt (by omega) (by decide)).mono ?_
  rintro r w7 ⟨rfl, f7⟩
  generalize hH : bytesH _ (encL ys ++ encU n) = H
  have hHl : H < 18446744073709551616 := by
    rw [← hH]
    unfold bytesH sumH
    exact mixN_lt _ _
  refine ⟨_, rfl, (w_uint (r6.fr0 f7) H hHl (by simp)).mono ?_⟩
  rintro r w8 ⟨rfl, own8, r8, g8, o8⟩
  have n6 : ∀ z ∈ [w5.heap.size], w5.heap.size ≤ z := by simp
  have f8 := fr_own (f6.tr0 f7) n6 g8
  rw [List.nil_append] at r8
  have lH := encU_len10 H hHl
  refine ⟨rfl, (w_done r8 (by omega)).mono ?_⟩
  rintro r w9 ⟨c, rfl, c9, f9, _⟩
  refine ⟨c, rfl, _, bytes_str c9.rd, (l_Quote _ (by rw [ba_size]; omega) w9).mono ?_⟩
  rintro r w10 ⟨rfl, f10⟩
  rw [bl_ba]
  have q2 := quote_len (encU H)
  rw [if_neg (by omega), if_neg (by omega)]
  have F10 := F5.tr0 (f8.tr0 (f9.tr0 f10))
  have s32 : (ByteArray.mk #[32]).size = 1 := rfl
  refine ⟨_, _, rfl, ?_, ?_, (l_Tokens _ (by rw [ba_app, ba_app, ba_size, ba_size, s32]; omega) w10).mono ?_⟩
  · rw [ba_size, s32]
    show ¬ _ > (9223372036854775807 : Int)
    omega
  · rw [ba_app, ba_size, ba_size, s32]
    show ¬ _ > (9223372036854775807 : Int)
    omega
  intro r w11 hp
  have et : bl (ba (quoteB (encL ys ++ encU n)) ++ ByteArray.mk #[32] ++ ba (quoteB (encU H))) = quoteB (encL ys ++ encU n) ++ [32] ++ quoteB (encU H) := by rw [bl_app, bl_app]; rfl
  rw [et, tokens_two _ _ (by simp only [List.length_append, List.length_singleton]; omega)] at hp
  obtain ⟨t, rfl, ot, f11, _⟩ := hp
  have nt := toks_n ot
  have nt3 : ((t.n : Nat) : Int) = 3 := by rw [nt]; rfl
  refine ⟨t, _, _, rfl, sel_false rfl (sel_false rfl (sel_false rfl (sel_ne (fun h => absurd nt3 h) (fun _ => ⟨by omega, by omega, ?_⟩))))⟩
  refine tok_at (i := 0) ot rfl fun p _ _ c1 _ => ⟨_, c1, ?_⟩
  obtain ⟨s1, w12, k1, k2, k3, _⟩ := str_bytes w11 (ba (encL ys ++ encU n))
  refine ⟨s1, w12, k1, (r_read k2 (by rw [bl_ba]; omega)).mono ?_⟩
  rintro r w13 ⟨rb, fp, rfl, rr13, f13, nr⟩
  have ot13 := ot.fr (M := F0) (k3.tr0 f13) (fun _ _ h => h)
  refine ⟨_, rfl, by omega, by omega, ?_⟩
  refine tok_at (i := 1) ot13 rfl fun p _ _ c1 _ => ⟨_, c1, ?_⟩
  obtain ⟨s2, w14, j1, j2, j3, _⟩ := str_bytes w13 (ba (encU H))
  refine ⟨s2, w14, j1, (r_read j2 (by rw [bl_ba]; omega)).mono ?_⟩
  rintro r w15 ⟨qb, fq, rfl, rq15, f15, nq⟩
  have F13 := F10.tr0 (f11.tr0 (k3.tr0 f13))
  have F15 := F13.tr0 (j3.tr0 f15)
  have ot15 := ot13.fr (M := F0) (j3.tr0 f15) (fun _ _ h => h)
  have rr15 := rr13.fr0 (j3.tr0 f15)
  rw [bl_ba] at rr15 rq15
  have hrb := rr13.mem
  have hqb := rq15.mem
  have rblt := rr13.lt
  have e1 := rdInts_enc ys (by omega) hxk (encU n)
  have e2 := rdU_enc n hn' []
  have e3 := rdU_enc H hHl []
  rw [List.append_nil] at e2 e3
  have j3s := j3.size
  have sz13 := f13.size
  have sz12 := k3.size
  have sz11 := f11.size
  have sz10 := F10.size
  have qfr : ∀ x ∈ fq, x ≠ rb := fun x hxq e => by have := nq x hxq; have := rblt rb hrb; omega
  refine ⟨_, rfl, sel_false rfl (sel_false rfl ((r_ints rr15).mono ?_))⟩
  rintro r w16 ⟨back, rfl, ob16, rr16, f16, nb16⟩
  rw [e1] at rr16 ob16
  have F16 := fr_at F15 (by have := nr rb hrb; omega) f16
  have rq16 := rq15.fr f16 (fun x hx' e => qfr x hx' e)
  have ot16 := ot15.fr f16 (fun x hx' e => by subst e; have := ot.lt x hx'; have := nr x hrb; omega)
  refine ⟨back, rfl, (r_uint rr16).mono ?_⟩
  rintro r w17 ⟨rfl, rr17, f17⟩
  simp only [e2] at rr17 ⊢
  have F17 := fr_at F16 (by have := nr rb hrb; omega) f17
  have rq17 := rq16.fr f17 (fun x hx' e => qfr x hx' e)
  have ot17 := ot16.fr f17 (fun x hx' e => by subst e; have := ot.lt x hx'; have := nr x hrb; omega)
  have ob17 := ob16.fr f17 (fun x hx' e => by subst e; have := nb16 x hx'; have := rr15.lt x hrb; omega)
  refine ⟨_, rfl, ?_⟩
  show drV w17 _
  have fd : Fr0 w17 w17.drew := Fr.drew _ _
  refine (?_ : _ ∧ _)
  rw [hk]
  simp only [Int.toNat_natCast]
  refine ⟨by omega, by omega, (same_ints (s := back) (t := sub ls 0 k) (a := ys) (b := ys) (ob17.fr0 fd).rd (hsub.fr0 (F17.tr0 fd)) (by omega)).mono ?_⟩
  rintro r w18 ⟨rfl, f18⟩
  have fd18 := fd.tr0 f18
  rw [decide_eq_true rfl]
  refine ⟨true, rfl, sel_true rfl (sel_true (by simp) ((r_end (rr17.fr0 fd18)).mono ?_))⟩
  rintro r w19 ⟨rfl, f19⟩
  have F19 := F17.tr0 (fd18.tr0 f19)
  have ot19 := ot17.fr (M := F0) (fd18.tr0 f19) (fun _ _ h => h)
  have rq19 := rq17.fr0 (fd18.tr0 f19)
  refine ⟨_, rfl, sel_true rfl ⟨by omega, by omega, ?_⟩⟩
  have live : ∀ {w6 : World}, Fr0 w w6 → Calls Try.prog n_enthymemelaw09_lives #[] w6 fun r_ w1 => ∃ t118 : Bool, r_ = .returned (.bool t118) ∧ (Ending.returned (.bool t118) = .returned (.bool true) ∧ Fr0 w w1) := fun f6 => by
    refine (l_lives _).mono ?_
    rintro r w7 ⟨rfl, f7⟩
    exact ⟨_, rfl, rfl, f6.tr0 f7⟩
  have qbig : w.heap.size ≤ qb := by have := nq qb hqb; omega
  refine tok_at (i := 0) ot19 rfl fun p hp _ c1 _ => ⟨_, c1, ?_, ?_⟩
  · refine (r_uint rq19).mono ?_
    rintro r w20 ⟨rfl, rq20, f20⟩
    simp only [e3] at rq20 ⊢
    have F20 := fr_at F19 qbig f20
    have ot20 := ot19.fr f20 (fun x hx' e => by subst e; have := ot.lt x hx'; have := nq x hqb; omega)
    have hk2' := tok_at (i := 0) ot20 rfl (K := fun q => ∃ q', t.a = some q' ∧ w20.cell? ((q'.add (0 * 3)).add 1) = some (.string (ba (encL ys ++ encU n)))) (fun q hq _ d1 _ => ⟨q, hq, d1⟩)
    rw [hp] at hk2'
    obtain ⟨q, hq, d1⟩ := hk2'
    cases hq
    obtain ⟨s3, w21, i1, i2, i3, i4⟩ := str_bytes w20 (ba (encL ys ++ encU n))
    refine ⟨_, rfl, d1, s3, w21, i1, (h_bytes _ i2 (fun x hx' => (i4 x hx').2) (by rw [bl_ba]; omega) (by decide)).mono ?_⟩
    rintro r w22 ⟨rfl, f22⟩
    rw [bl_ba, hH]
    exact ⟨_, rfl, sel_true (by simp) (live (F20.tr0 (i3.tr0 f22)))⟩
  · obtain ⟨s3, w21, i1, i2, i3, i4⟩ := str_bytes w19 (ba (encL ys ++ encU n))
    refine ⟨s3, w21, i1, (r_uint (rq19.fr0 i3)).mono ?_⟩
    rintro r w22 ⟨rfl, rq22, f22⟩
    simp only [e3] at rq22 ⊢
    have F22 := fr_at (F19.tr0 i3) qbig f22
    have i2' := i2.fr f22 (fun x hx' e => by subst e; have := (i4 x hx').1; have := rq19.lt x hqb; omega)
    refine ⟨_, rfl, (h_bytes _ i2' (fun x hx' => by have := (i4 x hx').2; have := f22.size; omega) (by rw [bl_ba]; omega) (by decide)).mono ?_⟩
    rintro r w23 ⟨rfl, f23⟩
    rw [bl_ba, hH]
    exact ⟨_, rfl, sel_true (by simp) (live (F22.tr0 f23))⟩
end Byt
end Go.Proofs.Ytemagdpieebjlaa
