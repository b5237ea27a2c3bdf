/- The reference's generators Some and Good, and the law's examples: the contracts. -/
import Derived.Test.YtemagdpieebjlaaM5
namespace Go.Proofs.Ytemagdpieebjlaa
open Go Go.W

theorem ba_app (a b : ByteArray) : (a ++ b).size = a.size + b.size := by rw [← bl_len, bl_app, List.length_append, bl_len, bl_len]
theorem r_Some (l : Sl) (xs : List Int) (m : Nat) (hm : m ≤ 20) (w : World) (h : Nums w l xs) (hx : ∀ x ∈ xs, I64 x) (hl : xs.length ≤ 9223372036854775807) : Calls Try.prog n_enthymemeref09_Some #[l.v, .int .i64 (m : Int)] w fun r w' => (∃ t : ByteArray, r = .returned (.string t) ∧ t.size ≤ 18 * m) ∧ Fr0 w w' := by
  refine enthymemeref09_Some.ok _ _ w _ ?_
  have hn : l.n = xs.length := by have := h.1; simpa using this
  have loop : ∀ (d k : Nat) (out : ByteArray) (w1 : World), k + d = m → out.size ≤ 18 * k → k ≤ xs.length → Fr0 w w1 → enthymemeref09_Some.L3 l (m : Int) out (k : Int) w1 fun r w' => (∃ t : ByteArray, r = .returned (.string t) ∧ t.size ≤ 18 * m) ∧ Fr0 w w' := by
    intro d
    induction d with
    | zero =>
      intro k out w1 hk ho hkx f
      exact enthymemeref09_Some.L3_step _ _ _ _ _ _ (sel_dec (fun _ => sel_false (decide_eq_false (by omega)) ⟨⟨_, rfl, by omega⟩, f⟩) (fun _ => ⟨⟨_, rfl, by omega⟩, f⟩))
    | succ d ih =>
      intro k out w1 hk ho hkx f
      refine enthymemeref09_Some.L3_step _ _ _ _ _ _ (sel_dec (fun h1 => sel_true (decide_eq_true (by omega)) ⟨by omega, h1, ?_⟩) (fun _ => ⟨⟨_, rfl, by omega⟩, f⟩))
      have hlt : k < xs.length := by omega
      have hg : xs[k]? = some xs[k] := List.getElem?_eq_getElem hlt
      have hi := hx _ (List.mem_of_getElem? hg)
      generalize xs[k] = x at hg hi
      have h1 : Nums w1 l xs := h.fr0 f
      obtain ⟨p, ha, hc⟩ := h1.2.2.2 k (intV x) (by simp [hg])
      rw [ha]
      refine ⟨x, by rw [Int.toNat_natCast, Nat.mul_one]; exact hc, (r_piece x hi w1).mono ?_⟩
      rintro r w2 ⟨⟨t, rfl, ht⟩, f2⟩
      refine ⟨t, rfl, ?_, ?_⟩
      · show ¬ _ > (9223372036854775807 : Int)
        omega
      · show enthymemeref09_Some.L3 _ _ _ (IntKind.wrap .i64 ((k : Int) + 1)) _ _
        rw [i64_next k (by omega)]
        exact ih (k + 1) _ w2 (by omega) (by rw [ba_app]; omega) (by omega) (f.tr0 f2)
  exact loop m 0 _ w (by omega) (by decide) (by omega) (Fr.refl _ _)
theorem r_Good (l : Sl) (xs : List Int) (m : Nat) (hm : m ≤ 20) (w : World) (h : Nums w l xs) (hx : ∀ x ∈ xs, I64 x) (hl : xs.length ≤ 9223372036854775807) : Calls Try.prog n_enthymemeref09_Good #[l.v, .int .i64 (m : Int)] w fun r w' => (∃ t : ByteArray, r = .returned (.string t) ∧ t.size ≤ 18 * m ∧ ∃ L, tokens (bl t) = .ok L) ∧ Fr0 w w' := by
  refine enthymemeref09_Good.ok _ _ w _ ?_
  have hn : l.n = xs.length := by have := h.1; simpa using this
  have loop : ∀ (d k : Nat) (out : ByteArray) (w1 : World), k + d = m → out.size ≤ 18 * k → (∃ L, tokens (bl out) = .ok L) → k ≤ xs.length → Fr0 w w1 → enthymemeref09_Good.L3 l (m : Int) out (k : Int) w1 fun r w' => (∃ t : ByteArray, r = .returned (.string t) ∧ t.size ≤ 18 * m ∧ ∃ L, tokens (bl t) = .ok L) ∧ Fr0 w w' := by
    intro d
    induction d with
    | zero =>
      intro k out w1 hk ho hok hkx f
      exact enthymemeref09_Good.L3_step _ _ _ _ _ _ (sel_dec (fun _ => sel_false (decide_eq_false (by omega)) ⟨⟨_, rfl, by omega, hok⟩, f⟩) (fun _ => ⟨⟨_, rfl, by omega, hok⟩, f⟩))
    | succ d ih =>
      intro k out w1 hk ho hok hkx f
      refine enthymemeref09_Good.L3_step _ _ _ _ _ _ (sel_dec (fun h1 => sel_true (decide_eq_true (by omega)) ⟨by omega, h1, ?_⟩) (fun _ => ⟨⟨_, rfl, by omega, hok⟩, f⟩))
      have hlt : k < xs.length := by omega
      have hg : xs[k]? = some xs[k] := List.getElem?_eq_getElem hlt
      have hi := hx _ (List.mem_of_getElem? hg)
      generalize xs[k] = x at hg hi
      have h1 : Nums w1 l xs := h.fr0 f
      obtain ⟨p, ha, hc⟩ := h1.2.2.2 k (intV x) (by simp [hg])
      rw [ha]
      refine ⟨x, by rw [Int.toNat_natCast, Nat.mul_one]; exact hc, (r_piece x hi w1).mono ?_⟩
      rintro r w2 ⟨⟨t, rfl, ht⟩, f2⟩
      have hsum : ¬ (((out.size + t.size : Nat) : Int) > IntKind.i64.max) := by
        show ¬ _ > (9223372036854775807 : Int)
        omega
      refine ⟨t, rfl, hsum, (r_Tokens (out ++ t) (by rw [ba_app]; omega) w2).mono ?_⟩
      intro r w3 hp
      have next : ∀ (out' : ByteArray), out'.size ≤ 18 * (k + 1) → (∃ L, tokens (bl out') = .ok L) → Fr0 w2 w3 → enthymemeref09_Good.S9 l (m : Int) out' (k : Int) w3 fun r w' => (∃ t : ByteArray, r = .returned (.string t) ∧ t.size ≤ 18 * m ∧ ∃ L, tokens (bl t) = .ok L) ∧ Fr0 w w' := fun out' h1 h2 f3 => by
        show enthymemeref09_Good.L3 _ _ _ (IntKind.wrap .i64 ((k : Int) + 1)) _ _
        rw [i64_next k (by omega)]
        exact ih (k + 1) out' w3 (by omega) h1 h2 (by omega) ((f.tr0 f2).tr0 f3)
      cases hq : tokens (bl (out ++ t)) with
      | ok L =>
        rw [hq] at hp
        obtain ⟨sl, rfl, _, f3, _⟩ := hp
        exact ⟨sl, _, _, rfl, sel_true rfl ⟨hsum, next _ (by rw [ba_app]; omega) ⟨L, hq⟩ f3⟩⟩
      | bad a e =>
        rw [hq] at hp
        obtain ⟨rfl, he, f3⟩ := hp
        exact ⟨⟨none, 0, 0⟩, _, _, rfl, sel_false (by simpa using he) (next _ (by omega) hok f3)⟩
  exact loop m 0 _ w (by omega) (by decide) ⟨[⟨6, [], 0⟩], rfl⟩ (by omega) (Fr.refl _ _)
theorem l_lives (w : World) : Calls Try.prog n_enthymemelaw09_lives #[] w fun r w' => r = .returned (.bool true) ∧ Fr0 w w' := by
  refine enthymemelaw09_lives.ok w _ ?_
  have t1 : tokens (bl (ByteArray.mk #[40, 110, 111, 116, 32, 120, 45, 49, 41])) = .ok [⟨0, [], 0⟩, ⟨2, [110, 111, 116], 1⟩, ⟨2, [120, 45, 49], 5⟩, ⟨1, [], 8⟩, ⟨6, [], 9⟩] := by kernel_rfl
  have t2 : tokens (bl (ByteArray.mk #[34, 97, 92, 34, 92, 120, 48, 48, 34])) = .ok [⟨5, [97, 34, 0], 0⟩, ⟨6, [], 9⟩] := by kernel_rfl
  have t3 : tokens (bl (ByteArray.mk #[35, 98, 48, 49, 50])) = .bad 0 2 := by kernel_rfl
  have t4 : tokens (bl (ByteArray.mk #[35, 98, 48, 49, 41])) = .ok [⟨3, [35, 98, 48, 49], 0⟩, ⟨1, [], 4⟩, ⟨6, [], 5⟩] := by kernel_rfl
  have H0 : LH F0 w w [] [] := LH.start [] (by simp)
  refine (l_Tokens _ (by decide) w).mono ?_
  intro r w1 hp
  rw [t1] at hp
  obtain ⟨a, rfl, oa, f1, na⟩ := hp
  have H1 := H0.push (.row ty_lexer_Token 3 a _) f1 oa na
  refine ⟨_, _, _, rfl, (l_Tokens _ (by decide) w1).mono ?_⟩
  intro r w2 hp
  rw [t2] at hp
  obtain ⟨b, rfl, ob, f2, nb⟩ := hp
  have H2 := H1.push (.row ty_lexer_Token 3 b _) f2 ob nb
  refine ⟨_, _, _, rfl, (l_Tokens _ (by decide) w2).mono ?_⟩
  intro r w3 hp
  rw [t3] at hp
  obtain ⟨rfl, _, f3⟩ := hp
  have H3 := H2.fr0 f3
  refine ⟨⟨none, 0, 0⟩, _, _, rfl, (l_Tokens _ (by decide) w3).mono ?_⟩
  intro r w4 hp
  rw [t4] at hp
  obtain ⟨c, rfl, oc, f4, nc⟩ := hp
  have H4 := H3.push (.row ty_lexer_Token 3 c _) f4 oc nc
  refine ⟨c, _, _, rfl, ?_⟩
  refine H4.nwrow (e := ty_enthymemeref09_Token) (sz := 3) (n := 5) (cs := toksC [⟨0, [], 0⟩, ⟨2, [110, 111, 116], 1⟩, ⟨2, [120, 45, 49], 5⟩, ⟨1, [], 8⟩, ⟨6, [], 9⟩]) rfl (by decide) fun w5 H5 => ?_
  have hbn := toks_n (H5.get 1)
  have hcn := toks_n (H5.get 2)
  refine sel_false rfl (sel_false rfl (sel_false rfl (sel_false rfl (sel_false rfl (sel_false rfl (sel_ne (fun h => absurd (by rw [hbn]; rfl) h) (fun _ => sel_ne (fun h => absurd (by rw [hcn]; rfl) h) (fun _ => ?_))))))))
  refine H5.dr fun w6 H6 => (l_plain a _ w6 (H6.get 0) (by decide)).mono ?_
  rintro r w7 ⟨sl, rfl, os, f7, ns⟩
  have H7 := H6.push (.row ty_enthymemeref09_Token 3 sl _) f7 os ns
  refine ⟨sl, rfl, (r_Same sl ⟨some (at0 w4.heap.size), 5, 5⟩ _ _ _ w7 (H7.get 4) (H7.get 3) (by decide)).mono ?_⟩
  rintro r w8 ⟨rfl, f8⟩
  have H8 := H7.fr0 f8
  refine ⟨true, rfl, sel_true rfl ⟨by decide, by rw [hbn]; decide, ?_⟩⟩
  refine tok_at (i := 0) (H8.get 1) rfl fun p hp c0 c1 _ => ⟨_, c0, sel_true rfl ⟨by decide, by rw [hbn]; decide, ?_⟩⟩
  rw [hp]
  refine ⟨_, c1, H8.nwx fun w9 _ H9 hb => ?_⟩
  have hk := tok_at (i := 0) (H9.get 1) rfl (K := fun q => ∃ q', b.a = some q' ∧ w9.cell? ((q'.add (0 * 3)).add 0) = some (.int .i64 5) ∧ w9.cell? ((q'.add (0 * 3)).add 1) = some (.string (ba [97, 34, 0]))) (fun q hq d0 d1 _ => ⟨q, hq, d0, d1⟩)
  rw [hp] at hk
  obtain ⟨q, hq, d0, d1⟩ := hk
  cases hq
  refine ⟨d1, d0, ba [97, 34, 0], bytes_str (s := ⟨some (at0 w8.heap.size), 3, 3⟩) (bs := [97, 34, 0]) (rd_block (vs := List.map byteV _) hb rfl), sel_true (by simp) ⟨by decide, by rw [hcn]; decide, ?_⟩⟩
  refine tok_at (i := 0) (H9.get 2) rfl fun p' hp' c0' c1' _ => ⟨_, c0', sel_true rfl ⟨by decide, by rw [hcn]; decide, ?_⟩⟩
  rw [hp']
  refine ⟨_, c1', sel_true (by decide +kernel) ⟨by decide, by rw [hcn]; decide, ?_⟩⟩
  have hk2 := tok_at (i := 1) (H9.get 2) rfl (K := fun q => ∃ q', c.a = some q' ∧ w9.cell? ((q'.add (1 * 3)).add 0) = some (.int .i64 1)) (fun q hq d0 _ _ => ⟨q, hq, d0⟩)
  rw [hp'] at hk2
  obtain ⟨q, hq, d0'⟩ := hk2
  cases hq
  exact ⟨_, d0', rfl, H9.fr⟩
end Go.Proofs.Ytemagdpieebjlaa
