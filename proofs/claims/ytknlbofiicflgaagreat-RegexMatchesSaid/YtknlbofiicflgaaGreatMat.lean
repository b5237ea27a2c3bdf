/- RegexMatches: what the law does. -/
import Derived.Test.YtknlbofiicflgaaGreatP1
import Derived.Test.YtknlbofiicflgaaGreatN12
import Derived.Test.YtknlbofiicflgaaGreatG3
import Derived.Test.YtknlbofiicflgaaGreatG8
import Derived.Test.YtknlbofiicflgaaGreatM4
import Derived.Test.YtknlbofiicflgaaGreatVE
namespace Go.Proofs.YtknlbofiicflgaaGreat
open Go Go.W
namespace Mat

section
variable {M : Nat → Prop} {w0 w : World} {L D : List En} {bs : List Nat}
theorem callt (H : LH M w0 w L D) {g : FuncId} {args : Array Value} {K : Post} {t : Rt} (hc : Calls Tryz.prog g args w fun r w' => SpoP t w r w' ∧ Fr0 w w') (hold : ∀ b ∈ t.fp, ∃ g ∈ D, b ∈ g.fp)
    (hk : ∀ (u : Rt) (w' : World), u.sz ≤ t.sz + 100 → LH M w0 w' L (D ++ [.tree u]) → K (.returned u.v) w') : callF bs Tryz.prog g args w K :=
  callF0 (hc.mono fun r w' ⟨⟨u, h1, h2, h3, h4⟩, f⟩ => ⟨f, by
    subst h1
    exact hk u w' h4 (H.addD (.tree u) f h2 fun b hb => by
      rcases h3 b (mem_nub.1 hb) with h | h
      · exact .inr (.inr (hold b h))
      · exact .inl h)⟩)
end
/-! #### a long string of zeros -/
def zx : Rx := .mk 7 0 0 [.mk 2 0 0 []]
theorem zero_good : goodR zx = true := rfl
theorem zero_span (n : Nat) : ∀ d i : Nat, i + d = n → starS (hdQ (List.replicate n 0) [.mk 2 0 0 []]) i n = true
  | 0, i, h => by
    rw [starS_eq _ (by omega), show i = n by omega]; simp
  | d + 1, i, h => by
    rw [starS_eq _ (by omega), Bool.or_eq_true]
    refine .inr ((anyM_iff _ _).2 ⟨i + 1, by omega, by omega, ?_⟩)
    rw [zero_span n d (i + 1) (by omega), Bool.and_true]
    show rngQ 0 0 (List.replicate n 0) i (i + 1) = true
    unfold rngQ
    rw [List.getElem?_replicate, if_pos (by omega)]
    simp
theorem tail {w w1 : World} {L D : List En} (H : LH F0 w w1 L D) {n : Nat} (hn : n ≤ 100) : enthymemelaw04_RegexMatches.S5T (n : Int) w1 fun r w' => r = .returned (.bool true) ∧ Fr0 w w' := by
  obtain ⟨w2, r1, r2, r3⟩ := make_full (P := Tryz.prog) el_bytes w1 n (by omega)
  rw [madeCells_one _ _ rfl] at r2
  have H2 : LH F0 w w2 (L ++ [.row ty_uint8 1 ⟨some ⟨w1.heap.size, 0, none⟩, n, n⟩ (List.replicate n (.int .u8 0))]) D := H.push (.row ty_uint8 1 ⟨some ⟨w1.heap.size, 0, none⟩, n, n⟩ (List.replicate n (.int .u8 0))) r3 r2 (fun b hb => by
    have : b = w1.heap.size := by simpa [blkL, En.row, nub] using hb
    omega)
  let rz : Rt := .mk 2 0 0 ⟨none, 0, 0⟩ []
  have prz : ∀ w' : World, rz.P w' := fun w' => by
    show Rt.P w' rz
    unfold rz Rt.P Rt.Ps
    exact ⟨RdN.nil 4 w', trivial⟩
  refine ⟨⟨some ⟨w1.heap.size, 0, none⟩, n, n⟩, w2, r1, H2.nwrow (n := 1) (sz := 4) (cs := [rz].flatMap Rt.c) rfl (by decide) fun w3 H3 => ?_⟩
  have hb : (Go.convert ty_sl_uint8 ty_string (Sl.v ⟨some ⟨w1.heap.size, 0, none⟩, n, n⟩)).run Tryz.prog w3 = .ok (.string (ba (List.replicate n 0))) w3 := by
    refine bytes_str ?_
    have ho : OwnRow w3 ty_uint8 1 ⟨some ⟨w1.heap.size, 0, none⟩, n, n⟩ (List.replicate n (.int .u8 0)) := H3.own (.row ty_uint8 1 ⟨some ⟨w1.heap.size, 0, none⟩, n, n⟩ (List.replicate n (.int .u8 0))) (by simp)
    have := ho.rd1
    unfold Bytes
    rw [List.map_replicate]
    exact this
  refine ⟨_, hb, ?_⟩
  have hsz : (ba (List.replicate n 0)).size = n := by rw [← bl_len]; simp [bl, ba]
  have hbl : bl (ba (List.replicate n 0)) = List.replicate n 0 := by simp [bl, ba]
  let xs : Rt := .mk 7 0 0 ⟨some (at0 w2.heap.size), 1, 1⟩ [rz]
  have pxs : xs.P w3 := by
    show Rt.P w3 (.mk 7 0 0 ⟨some (at0 w2.heap.size), 1, 1⟩ [rz])
    unfold Rt.P
    refine ⟨OwnRow.rdn (H3.own (.row ty_regex_Regex 4 ⟨some (at0 w2.heap.size), 1, 1⟩ ([rz].flatMap Rt.c)) (by simp)), Rt.ps_of fun t ht => ?_⟩
    simp only [List.mem_cons, List.not_mem_nil, or_false] at ht
    subst ht
    exact prz w3
  have lives : ∀ w4 : World, LH F0 w w4 L D → Calls Tryz.prog n_enthymemelaw04_lives #[] w4 fun r_ w2 => ∃ t : Bool, r_ = .returned (.bool t) ∧ (fun (r : Ending) (w' : World) => r = .returned (.bool true) ∧ Fr0 w w') (.returned (.bool t)) w2 := fun w4 H4 => by
    refine H4.call (c_lives w4) ?_
    rintro _ w5 rfl H5
    exact ⟨true, rfl, rfl, H5.fr⟩
  have H3' : LH F0 w w3 L D := by
    have := H3.take L.length
    simpa using this
  by_cases h64 : n ≤ 64
  · refine H3'.call (c_Match (ba (List.replicate n 0)) xs w3 (by show 1 + (1 + 0 + 0) ≤ 64; omega) zero_good (by omega) pxs) ?_
    rintro _ w4 rfl H4
    have e : spanQ (bl (ba (List.replicate n 0))) xs.rx 0 (ba (List.replicate n 0)).size = true := by
      rw [hsz, hbl]
      exact zero_span n n 0 (by omega)
    rw [e]
    exact ⟨_, _, rfl, sel_true (by rw [decide_eq_true (by omega)]; rfl) (sel_true (by rw [decide_eq_false (by omega)]; rfl) (lives w4 H4))⟩
  · have big : Calls Tryz.prog n_regex_Match #[xs.v, .string (ba (List.replicate n 0))] w3 fun r w' => r = .returned (.tuple #[.bool false, .int .i64 4]) ∧ Fr0 w3 w' := by
      have hv : validR xs.rx = 0 := rfl
      refine regex_Match.okT _ _ _ _ _ w3 _ ((lhT pxs).newg fun b1 w4 H4 => H4.callg (c_Valid xs w4 (by show 1 + (1 + 0 + 0) ≤ 1000000; omega) (H4.getD 0)) ?_)
      rintro _ w5 rfl H5
      exact ⟨_, rfl, sel_ne (fun hne => absurd hv hne) (fun _ => sel_dec (fun hb => ⟨rfl, H5.fr⟩) (fun hb => by omega))⟩
    refine H3'.call big ?_
    rintro _ w4 rfl H4
    exact ⟨_, _, rfl, sel_true (by rw [decide_eq_false (by omega)]; rfl) (sel_true (by rw [decide_eq_true (by omega)]; rfl) (lives w4 H4))⟩
theorem loops {w : World} {all ws : Sl} {T : List Rt} {zs : List Int} {long : Int} (hI : I64 long) (hz : ∀ z ∈ zs, I64 z) (hn : T.length = 2) (hT : ∀ t ∈ T, t.sz ≤ 1000) : ∀ (d i : Nat) (w1 : World), i + d = 2 → LH F0 w w1 [] [Rt.row all T, .trees T, .rd ws (zs.map intV)] → enthymemelaw04_RegexMatches.L0T ws long all (i : Int) w1 fun r w' => r = .returned (.bool true) ∧ Fr0 w w' := by
  intro d
  induction d with
  | zero =>
    intro i w1 hi H
    refine enthymemelaw04_RegexMatches.L0T_step _ _ _ _ _ _ (sel_false (decide_eq_false (by omega)) (H.call (around0 long 9 w1 (by omega) hI) ?_))
    rintro _ w2 ⟨k, rfl, hk⟩ H2
    refine ⟨_, rfl, ?_⟩
    dsimp only
    rw [IntWalk.i64_in _ (by omega), show (60 : Int) + (k : Int) = ((60 + k : Nat) : Int) by omega]
    exact tail H2 (by omega)
  | succ d ih =>
    intro i w1 hi H
    have gi : T[i]? = some (T[i]'(by omega)) := List.getElem?_eq_getElem (by omega)
    generalize T[i]'(by omega) = a at gi
    have sa := hT a (List.mem_of_getElem? gi)
    have iall : ∀ w2 : World, LH F0 w w2 [] [Rt.row all T, .trees T, .rd ws (zs.map intV)] → (i : Int) < ((all.n : Nat) : Int) := fun w2 H2 => by
      have := Rt.rows_n (show RdN 4 w2 all (T.flatMap Rt.c) from H2.getD 0)
      omega
    have s3 : ∀ w2 : World, LH F0 w w2 [] [Rt.row all T, .trees T, .rd ws (zs.map intV)] → enthymemelaw04_RegexMatches.S3T ws long all (i : Int) w2 fun r w' => r = .returned (.bool true) ∧ Fr0 w w' := fun w2 H2 => by
      refine ⟨by omega, iall w2 H2, Rt.at' (H2.getD 0) gi fun p hp c => ⟨_, _, _, a.s, c.c0, c.c1, c.c2, c.c3, ?_⟩⟩
      refine H2.callq (c_own a w2 (by omega) ((show Rt.Ps w2 T from H2.getD 1).get gi)) ?_
      rintro _ w3 ⟨u, rfl, eu, pu, fu⟩ _ F3
      have H3 := F3.rd (.tree u) pu fun x hx => fu x (mem_nub.1 hx)
      refine ⟨_, _, _, u.s, rfl, H3.call (c_Nullable u w3 (by rw [← Rt.rx_sz, eu, Rt.rx_sz]; omega) (H3.getD 3)) ?_⟩
      rintro _ w4 rfl H4
      refine ⟨_, _, rfl, by omega, iall w4 (H4.forget _ (by simp)), Rt.at' (H4.getD 0) gi fun p hp c => ⟨_, _, _, a.s, c.c0, c.c1, c.c2, c.c3, ?_⟩⟩
      refine H4.call (c_refNullable a w4 (by omega) ((show Rt.Ps w4 T from H4.getD 1).get gi)) ?_
      rintro _ w5 rfl H5
      have e : (if validR u.rx = 0 then nullX u.rx else false) = (if validR a.rx = 0 then matchD a.rx [] else false) := by
        rw [eu]
        by_cases hv : validR a.rx = 0
        · rw [if_pos hv, if_pos hv, null_match _ (valid_good hv).1]
        · rw [if_neg hv, if_neg hv]
      rw [e, eu]
      refine ⟨_, _, rfl, sel_false (by simp) (sel_ne (fun h => absurd rfl h) fun _ => ?_)⟩
      rw [i64_next _ (by omega)]
      exact ih (i + 1) w5 (by omega) (H5.forget _ (by simp))
    have loop2 : ∀ (e k : Nat) (w2 : World), k + e = 8 → LH F0 w w2 [] [Rt.row all T, .trees T, .rd ws (zs.map intV)] → enthymemelaw04_RegexMatches.L1T ws long all (i : Int) (k : Int) w2 fun r w' => r = .returned (.bool true) ∧ Fr0 w w' := by
      intro e
      induction e with
      | zero =>
        intro k w2 hk H2
        exact enthymemelaw04_RegexMatches.L1T_step _ _ _ _ _ _ _ (sel_dec (fun _ => sel_false (decide_eq_false (by omega)) (s3 w2 H2)) fun _ => s3 w2 H2)
      | succ e ihe =>
        intro k w2 hk H2
        have hlen := Nums.len (show Nums w2 ws zs from H2.getD 2)
        refine enthymemelaw04_RegexMatches.L1T_step _ _ _ _ _ _ _ (sel_dec (fun hlt => sel_true (decide_eq_true (by omega)) (H2.dr fun w3 H3 => ?_)) fun _ => s3 w2 H2)
        have hg : zs[k]? = some (zs[k]'(by omega)) := List.getElem?_eq_getElem (by omega)
        have hzI := hz _ (List.mem_of_getElem? hg)
        generalize zs[k]'(by omega) = z at hg hzI
        have wsz : (ba (wordX z)).size ≤ 64 := by
          have := wordX_len z
          rw [← bl_len]; simp [bl, ba]; omega
        refine ⟨by omega, iall w3 H3, Rt.at' (H3.getD 0) gi fun p hp c => ⟨_, _, _, a.s, c.c0, c.c1, c.c2, c.c3, by omega, hlt, ?_⟩⟩
        refine Nums.cell (show Nums w3 ws zs from H3.getD 2) hg (by simp) fun q hq hc => ⟨z, hc, ?_⟩
        refine H3.callq (c_own a w3 (by omega) ((show Rt.Ps w3 T from H3.getD 1).get gi)) ?_
        rintro _ w4 ⟨u, rfl, eu, pu, fu⟩ _ F4
        have H4 := F4.rd (.tree u) pu fun x hx => fu x (mem_nub.1 hx)
        refine ⟨_, _, _, u.s, rfl, (by
          have := Nums.cell (show Nums w4 ws zs from H4.getD 2) hg (j := k * 1) (by simp) (K := fun q' => w4.cell? (q'.add (Int.toNat (k : Int) * 1)) = some (.i z)) fun _ _ h => h
          rw [hq] at this
          exact this), H4.call (c_WordX z hzI w4) ?_⟩
        rintro _ w5 rfl H5
        refine ⟨_, rfl, H5.call (c_MatchG (ba (wordX z)) wsz u w5 (by rw [← Rt.rx_sz, eu, Rt.rx_sz]; omega) (H5.getD 3)) ?_⟩
        rintro _ w6 rfl H6
        refine ⟨_, _, rfl, H6.dr fun w7 H7 => ⟨by omega, iall w7 (H7.forget _ (by simp)), Rt.at' (H7.getD 0) gi fun p hp c => ⟨_, _, _, a.s, c.c0, c.c1, c.c2, c.c3, by omega, hlt, ?_⟩⟩⟩
        refine Nums.cell (show Nums w7 ws zs from H7.getD 2) hg (by simp) fun q hq hc => ⟨z, hc, H7.call (c_WordX z hzI w7) ?_⟩
        rintro _ w8 rfl H8
        have c8 := Rt.again (H8.getD 0) gi hp
        refine ⟨_, rfl, c8.c0, c8.c1, c8.c2, c8.c3, H8.call (c_refMatch (ba (wordX z)) wsz a w8 (by omega) ((show Rt.Ps w8 T from H8.getD 1).get gi)) ?_⟩
        rintro _ w9 rfl H9
        have e : (if validR u.rx = 0 then spanQ (bl (ba (wordX z))) u.rx 0 (ba (wordX z)).size else false) = (if validR a.rx = 0 then matchD a.rx (bl (ba (wordX z))) else false) := by
          rw [eu, ← bl_len, span_match _ _ _ _ (by omega) (Nat.le_refl _), part_all]
        rw [e, eu]
        refine ⟨_, _, rfl, sel_false (by simp) (sel_ne (fun h => absurd rfl h) fun _ => ?_)⟩
        rw [i64_next _ (by omega)]
        exact ihe (k + 1) w9 (by omega) (H9.forget _ (by simp))
    exact enthymemelaw04_RegexMatches.L0T_step _ _ _ _ _ _ (sel_true (decide_eq_true (by omega)) (loop2 8 0 w1 (by omega) H))
theorem walk (l : Sl) (how by' : Int) (ws : Sl) (long : Int) (w : World) (hl : ArgNums w l) (h1 : I64 how) (h2 : I64 by') (hws : ArgNums w ws) (h3 : I64 long) :
    Calls Tryz.prog n_enthymemelaw04_RegexMatches #[l.v, .int .i64 how, .int .i64 by', ws.v, .int .i64 long] w fun r w' => r = .returned (.bool true) ∧ Fr0 w w' := by
  obtain ⟨xs, hls, _, hx⟩ := hl
  obtain ⟨zs, hzs, _, hz⟩ := hws
  have H0 : LH F0 w w [] [.rd ws (zs.map intV)] := lh0 _ (by
    intro e he
    simp only [List.mem_cons, List.not_mem_nil, or_false] at he
    subst he
    exact hzs)
  refine enthymemelaw04_RegexMatches.okT _ _ _ _ _ w _ (H0.callq (c_Made l xs w hls hx) ?_)
  rintro _ w1 ⟨t1, rfl, p1, n1, s1, _⟩ _ F1
  have H1 := F1.rd (.tree t1) p1 fun b hb => n1 b (mem_nub.1 hb)
  refine ⟨_, _, _, t1.s, rfl, H1.newg fun b11 w2 H2 => H2.locg fun w7 H7 => ?_⟩
  refine callt H7 (c_Spoilt t1 (by omega) (Int.tmod how 5) by' (by
    have a1 := Int.lt_tmod_of_pos how (show (0 : Int) < 5 by omega)
    have a2 := Int.tmod_lt_of_pos how (show (0 : Int) < 5 by omega)
    exact ⟨by omega, by omega⟩) h2 w7 (H7.getD 1)) (fun b hb => ⟨_, List.mem_of_getElem? (i := 1) rfl, mem_nub.2 hb⟩) fun t2 w8 s2 H8 => ?_
  refine ⟨_, _, _, t2.s, rfl, H8.nwrow (n := 2) (sz := 4) (cs := [t1, t2].flatMap Rt.c) rfl (by decide) fun w9 H9 => ?_⟩
  have H14 := H9.addD (.trees [t1, t2]) (Fr.refl _ _) (Rt.ps_of fun u hu => by
    simp only [List.mem_cons, List.not_mem_nil, or_false] at hu
    rcases hu with rfl | rfl
    · exact H9.getD 1
    · exact H9.getD 2) (fun b hb => by
    obtain ⟨u, hu, hb'⟩ := Rt.fps_iff.1 (mem_nub.1 hb)
    simp only [List.mem_cons, List.not_mem_nil, or_false] at hu
    rcases hu with rfl | rfl
    · exact .inr (.inr ⟨_, List.mem_of_getElem? (i := 1) rfl, mem_nub.2 hb'⟩)
    · exact .inr (.inr ⟨_, List.mem_of_getElem? (i := 2) rfl, mem_nub.2 hb'⟩))
  have H15 := H14.freeze 1 (Rt.row ⟨some (at0 w8.heap.size), 2, 2⟩ [t1, t2]) rfl (OwnRow.rdn (H14.get 1)) fun b hb => rdn_own hb
  have H16 := (H15.take 0).forget [Rt.row ⟨some (at0 w8.heap.size), 2, 2⟩ [t1, t2], .trees [t1, t2], .rd ws (zs.map intV)] (by simp)
  exact loops h3 hz rfl (by
    intro t ht
    simp only [List.mem_cons, List.not_mem_nil, or_false] at ht
    rcases ht with rfl | rfl <;> omega) 2 0 w9 (by omega) H16
end Mat
end Go.Proofs.YtknlbofiicflgaaGreat
