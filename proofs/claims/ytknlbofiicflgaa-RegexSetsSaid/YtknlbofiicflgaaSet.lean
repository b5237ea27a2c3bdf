/- RegexSets: what the law does. -/
import Derived.Test.YtknlbofiicflgaaN12
import Derived.Test.YtknlbofiicflgaaM4
import Derived.Test.YtknlbofiicflgaaVB
namespace Go.Proofs.Ytknlbofiicflgaa
open Go Go.W
namespace Set'

theorem S3 {w w1 : World} {L D : List En} (H : LH F0 w w1 L D) (s : ByteArray) (x y or and not is more led other : Bool) (h1 : or = (x || y)) (h2 : and = (x && y)) (h3 : not = !x) (h4 : led = y) (h5 : other = false) (h6 : is = ((s.toList == (ByteArray.mk #[]).toList) || more)) :
    enthymemelaw04_RegexSets.S3T s x y or and not is more 0 led other w1 fun r w' => r = .returned (.bool true) ∧ Fr0 w w' := by
  have live : Calls Try.prog n_enthymemelaw04_lives #[] w1 fun r_ w2 => ∃ t : Bool, r_ = .returned (.bool t) ∧ (fun (r : Ending) (w' : World) => r = .returned (.bool true) ∧ Fr0 w w') (.returned (.bool t)) w2 := by
    refine H.call (c_lives w1) ?_
    rintro _ w2 rfl H2
    exact ⟨true, rfl, rfl, H2.fr⟩
  have tail : ∀ (A B : Prop), A → sel (s.toList == (ByteArray.mk #[]).toList) (sel (is == true) A B) (sel (is == more) A B) := fun A B hA => by
    subst h6
    refine sel_intro (fun h => ?_) (fun h => ?_)
    · rw [h]; exact hA
    · rw [h]
      cases more <;> exact hA
  subst h1 h2 h3 h4 h5
  cases x <;> cases led <;> exact tail _ _ live
theorem loop2 {w : World} (s : ByteArray) (x y or and not is more led other : Bool) (h1 : or = (x || y)) (h2 : and = (x && y)) (h3 : not = !x) (h4 : led = y) (h5 : other = false) (h6 : is = ((s.toList == (ByteArray.mk #[]).toList) || more)) (be : Nat) : ∀ (d q : Nat) (w1 : World) (L D : List En), q + d = 8 → LH F0 w w1 L D → En.c be (List.replicate 8 (.int .i64 0)) ty_api_Errno ∈ L →
    enthymemelaw04_RegexSets.L2T s x y or and not is more 0 led other ⟨some (at0 be), 8, 8⟩ (q : Int) w1 fun r w' => r = .returned (.bool true) ∧ Fr0 w w' := by
  intro d
  induction d with
  | zero =>
    intro q w1 L D hq H hm
    exact enthymemelaw04_RegexSets.L2T_step _ _ _ _ _ _ _ _ _ _ _ _ _ _ _ (sel_false (decide_eq_false (by show ¬ (q : Int) < ((8 : Nat) : Int); omega)) (sel_false rfl (S3 H s x y or and not is more led other h1 h2 h3 h4 h5 h6)))
  | succ d ih =>
    intro q w1 L D hq H hm
    obtain ⟨i, hi⟩ := List.mem_iff_getElem?.1 hm
    refine enthymemelaw04_RegexSets.L2T_step _ _ _ _ _ _ _ _ _ _ _ _ _ _ _ (sel_true (decide_eq_true (by show (q : Int) < ((8 : Nat) : Int); omega)) ⟨by omega, by show (q : Int) < ((8 : Nat) : Int); omega, (show optP (some (at0 be)) _ from ⟨0, ?_, sel_false rfl ?_⟩)⟩)
    · rw [Int.toNat_natCast, Nat.mul_one]
      exact H.ld i q hi (by rw [List.getElem?_replicate, if_pos (by omega)])
    · rw [i64_next _ (by omega)]
      exact ih (q + 1) w1 L D (by omega) H hm
/-- a tree over a row that is there to read -/
theorem tree2 {w : World} {s : Sl} {ts : List Rt} (k : Int) (lo hi : UInt8) (h : RdN 4 w s (ts.flatMap Rt.c)) (hp : ∀ t ∈ ts, t.P w) : (Rt.mk k lo hi s ts).P w := by
  unfold Rt.P
  exact ⟨h, Rt.ps_of hp⟩
theorem bl_cons (d : UInt8) (s : ByteArray) : bl (ba [d] ++ s) = d :: bl s := by simp [bl, ba]
theorem one_byte {w : World} {b : Nat} {z : Int} {d : UInt8} (hd : z = (d.toNat : Int)) (h : w.heap[b]? = some (.cells #[.int .u8 z] ty_uint8 (0, 0))) : (Go.convert ty_sl_uint8 ty_string (.slice (some (at0 b)) 1 1)).run Try.prog w = .ok (.string (ba [d])) w := by
  subst hd
  refine bytes_str (s := ⟨some (at0 b), 1, 1⟩) (bs := [d]) ⟨by simp, Nat.le_refl _, ?_⟩
  unfold CRow
  refine ⟨fun ha => (by cases ha), fun i v hi => ⟨at0 b, rfl, ?_⟩⟩
  cases i with
  | zero =>
    simp at hi
    subst hi
    exact cellAt (p := at0 b) h rfl rfl
  | succ i => simp at hi
theorem s1 {w w1 : World} {c : UInt8} {ta tb : Rt} {b9 b10 : Nat} {s : ByteArray} (hs : s.size ≤ 60) (sa : ta.sz ≤ 22) (sb : tb.sz ≤ 22) (ga : goodR ta.rx = true) (gb : goodR tb.rx = true) {ws : Sl} {zs : List Int} (H : LH F0 w w1 [.g b9, .g b10] [.rd ws (zs.map intV), .tree ta, .tree tb]) :
    enthymemelaw04_RegexSets.S1T (c.toNat : Int) b9 ta.k ta.lo.toNat ta.hi.toNat ta.s b10 tb.k tb.lo.toNat tb.hi.toNat tb.s s w1 fun r w' => r = .returned (.bool true) ∧ Fr0 w w' := by
  let rc : Rt := .mk 2 c c ⟨none, 0, 0⟩ []
  have prc : ∀ w' : World, rc.P w' := fun w' => by
    show Rt.P w' rc
    unfold rc Rt.P Rt.Ps
    exact ⟨RdN.nil 4 w', trivial⟩
  refine H.nwrow (n := 1) (sz := 4) (cs := [ta].flatMap Rt.c) rfl (by decide) fun w2 H2 => ?_
  have H2' := H2.freeze 2 (Rt.row ⟨some (at0 w1.heap.size), 1, 1⟩ [ta]) rfl (OwnRow.rdn (H2.get 2)) fun b hb => rdn_own hb
  refine LH.newg (L := [.g b9, .g b10]) H2' (fun b13 w3 H3 => H3.locg fun w6 H6 => ?_) (by simp)
  refine H6.nwrow (n := 2) (sz := 4) (cs := [rc, tb].flatMap Rt.c) rfl (by decide) fun w7 H7 => ?_
  have H7' := H7.freeze 3 (Rt.row ⟨some (at0 w6.heap.size), 2, 2⟩ [rc, tb]) rfl (OwnRow.rdn (H7.get 3)) fun b hb => rdn_own hb
  refine LH.newg (L := [.g b9, .g b10, .g b13]) H7' (fun b14 w8 H8 => H8.locg fun w12 H12 => ?_) (by simp)
  refine H12.nwrow (n := 2) (sz := 4) (cs := [ta, tb].flatMap Rt.c) rfl (by decide) fun w13 H13 => ?_
  have H13' : LH F0 w w13 [.g b9, .g b10, .g b13, .g b14] [.rd ws (zs.map intV), .tree ta, .tree tb, Rt.row ⟨some (at0 w1.heap.size), 1, 1⟩ [ta], Rt.row ⟨some (at0 w6.heap.size), 2, 2⟩ [rc, tb], Rt.row ⟨some (at0 w12.heap.size), 2, 2⟩ [ta, tb]] := H13.freeze 4 (Rt.row ⟨some (at0 w12.heap.size), 2, 2⟩ [ta, tb]) rfl (OwnRow.rdn (H13.get 4)) fun b hb => rdn_own hb
  have p2 : ∀ {w' : World} {L : List En} {D : List En}, LH F0 w w' L ([.rd ws (zs.map intV), .tree ta, .tree tb] ++ D) → ∀ t ∈ [ta, tb], t.P w' := fun {w' L D} H t ht => by
    simp only [List.mem_cons, List.not_mem_nil, or_false] at ht
    rcases ht with rfl | rfl
    · exact H.getD 1
    · exact H.getD 2
  have gg : ∀ k : Int, (k = 4 ∨ k = 5) → goodR (.mk k 0 0 [ta.rx, tb.rx]) = true := fun k hk => by
    rcases hk with rfl | rfl
    · exact good_node (k := 4) (by omega) (by omega) (by simp [goodL, ga, gb]) (by omega)
    · exact good_node (k := 5) (by omega) (by omega) (by simp [goodL, ga, gb]) (by omega)
  have g1 : ∀ k : Int, (k = 6 ∨ k = 7) → goodR (.mk k 0 0 [ta.rx]) = true := fun k hk => by
    rcases hk with rfl | rfl
    · exact good_node (k := 6) (by omega) (by omega) (by simp [goodL, ga]) (by simp)
    · exact good_node (k := 7) (by omega) (by omega) (by simp [goodL, ga]) (by simp)
  -- the matches, one after the other
  refine H13'.callg (c_Match s ta w13 (by omega) ga (by omega) (H13'.getD 1)) ?_
  rintro _ w14 rfl H14
  refine ⟨_, _, rfl, H14.callg (c_Match s tb w14 (by omega) gb (by omega) (H14.getD 2)) ?_⟩
  rintro _ w15 rfl H15
  have sz2 : ∀ k : Int, (Rt.mk k 0 0 ⟨some (at0 w12.heap.size), 2, 2⟩ [ta, tb]).sz ≤ 64 := fun k => by
    show 1 + (ta.sz + (tb.sz + 0)) ≤ 64
    omega
  refine ⟨_, _, rfl, H15.callg (c_Match s (.mk 4 0 0 ⟨some (at0 w12.heap.size), 2, 2⟩ [ta, tb]) w15 (sz2 4) (gg 4 (.inl rfl)) (by omega) (tree2 4 0 0 (H15.getD 5) (p2 (D := [_, _, _]) H15))) ?_⟩
  rintro _ w16 rfl H16
  refine ⟨_, _, rfl, H16.callg (c_Match s (.mk 5 0 0 ⟨some (at0 w12.heap.size), 2, 2⟩ [ta, tb]) w16 (sz2 5) (gg 5 (.inr rfl)) (by omega) (tree2 5 0 0 (H16.getD 5) (p2 (D := [_, _, _]) H16))) ?_⟩
  rintro _ w17 rfl H17
  have hnot : (Rt.mk 6 0 0 (subN 4 ⟨some (at0 w12.heap.size), 2, 2⟩ 0 1) [ta]).P w17 := by
    refine tree2 6 0 0 ?_ (fun t ht => ?_)
    · have := RdN.sub (show RdN 4 w17 ⟨some (at0 w12.heap.size), 2, 2⟩ ([ta, tb].flatMap Rt.c) from H17.getD 5) 0 1 (by omega) (by show 1 ≤ 2; omega)
      exact this
    · simp at ht; subst ht; exact H17.getD 1
  refine ⟨_, _, rfl, by omega, by show (1 : Int) ≤ ((2 : Nat) : Int); omega, H17.callg (c_Match s (.mk 6 0 0 (subN 4 ⟨some (at0 w12.heap.size), 2, 2⟩ 0 1) [ta]) w17 (by show 1 + (ta.sz + 0) ≤ 64; omega) (g1 6 (.inl rfl)) (by omega) hnot) ?_⟩
  rintro _ w18 rfl H18
  let xs : Rt := .mk 7 0 0 ⟨some (at0 w1.heap.size), 1, 1⟩ [ta]
  have pxs : ∀ {w' : World} {L D : List En}, LH F0 w w' L ([.rd ws (zs.map intV), .tree ta, .tree tb, Rt.row ⟨some (at0 w1.heap.size), 1, 1⟩ [ta]] ++ D) → xs.P w' := fun {w' L D} H => tree2 7 0 0 (H.getD 3) (fun t ht => by
    simp at ht; subst ht; exact H.getD 1)
  refine ⟨_, _, rfl, H18.callg (c_Match s xs w18 (by show 1 + (ta.sz + 0) ≤ 64; omega) (g1 7 (.inr rfl)) (by omega) (pxs (D := [_, _]) H18)) ?_⟩
  rintro _ w19 rfl H19
  refine ⟨_, _, rfl, H19.nwrow (n := 2) (sz := 4) (cs := [ta, xs].flatMap Rt.c) rfl (by decide) fun w20 H20 => ?_⟩
  have H20' : LH F0 w w20 [.g b9, .g b10, .g b13, .g b14] [.rd ws (zs.map intV), .tree ta, .tree tb, Rt.row ⟨some (at0 w1.heap.size), 1, 1⟩ [ta], Rt.row ⟨some (at0 w6.heap.size), 2, 2⟩ [rc, tb], Rt.row ⟨some (at0 w12.heap.size), 2, 2⟩ [ta, tb], Rt.row ⟨some (at0 w19.heap.size), 2, 2⟩ [ta, xs]] := H20.freeze 4 (Rt.row ⟨some (at0 w19.heap.size), 2, 2⟩ [ta, xs]) rfl (OwnRow.rdn (H20.get 4)) fun b hb => rdn_own hb
  have gmore : goodR (.mk 3 0 0 [ta.rx, xs.rx]) = true := good_node (k := 3) (by omega) (by omega) (by
    have := g1 7 (.inr rfl)
    show (goodR ta.rx && (goodR (.mk 7 0 0 [ta.rx]) && true)) = true
    rw [ga, this]; rfl) (by omega)
  refine H20'.callg (c_Match s (.mk 3 0 0 ⟨some (at0 w19.heap.size), 2, 2⟩ [ta, xs]) w20 (by show 1 + (ta.sz + (1 + (ta.sz + 0) + 0)) ≤ 64; omega) gmore (by omega) (tree2 3 0 0 (H20'.getD 6) (fun t ht => by
    simp only [List.mem_cons, List.not_mem_nil, or_false] at ht
    rcases ht with rfl | rfl
    · exact H20'.getD 1
    · exact pxs (D := [_, _, _]) H20'))) ?_
  rintro _ w21 rfl H21
  -- a byte in front
  have grc : goodR (.mk 3 0 0 [rc.rx, tb.rx]) = true := good_node (k := 3) (by omega) (by omega) (by
    have : goodR rc.rx = true := by
      show goodR (.mk 2 c c []) = true
      unfold goodR
      simp
    show (goodR rc.rx && (goodR tb.rx && true)) = true
    rw [this, gb]; rfl) (by omega)
  have led : ∀ (d : UInt8) (w' : World) (L D : List En) (K : Post), LH F0 w w' L ([.rd ws (zs.map intV), .tree ta, .tree tb, Rt.row ⟨some (at0 w1.heap.size), 1, 1⟩ [ta], Rt.row ⟨some (at0 w6.heap.size), 2, 2⟩ [rc, tb]] ++ D) →
      (∀ w2, LH F0 w w2 L ([.rd ws (zs.map intV), .tree ta, .tree tb, Rt.row ⟨some (at0 w1.heap.size), 1, 1⟩ [ta], Rt.row ⟨some (at0 w6.heap.size), 2, 2⟩ [rc, tb]] ++ D) → K (.returned (.tuple #[.bool (decide (d = c) && spanQ (bl s) tb.rx 0 s.size), .int .i64 0])) w2) →
      callF [b9, b10, b13, b14] Try.prog n_regex_Match #[.agg #[.i 3, .int .u8 0, .int .u8 0, .slice (some (nb w6)) 2 2], .string (ba [d] ++ s)] w' K := fun d w' L D K H hK => by
    have hsz : (ba [d] ++ s).size = s.size + 1 := by
      rw [← bl_len, bl_cons, List.length_cons, bl_len]
    refine H.callg (c_Match (ba [d] ++ s) (.mk 3 0 0 ⟨some (at0 w6.heap.size), 2, 2⟩ [rc, tb]) w' (by show 1 + (1 + 0 + (tb.sz + 0)) ≤ 64; omega) grc (by omega) (tree2 3 0 0 (H.getD 4) (fun t ht => by
      simp only [List.mem_cons, List.not_mem_nil, or_false] at ht
      rcases ht with rfl | rfl
      · exact prc w'
      · exact H.getD 2))) ?_
    rintro _ w2 rfl H2
    have e : spanQ (bl (ba [d] ++ s)) (Rt.mk 3 0 0 ⟨some (at0 w6.heap.size), 2, 2⟩ [rc, tb]).rx 0 (ba [d] ++ s).size = (decide (d = c) && spanQ (bl s) tb.rx 0 s.size) := by
      rw [bl_cons, hsz]
      exact sets_led (bl s) tb.rx s.size c d
    rw [e]
    exact hK w2 H2
  have big : ∀ d : UInt8, ¬ ((((ba [d]).size + s.size : Nat) : Int) > IntKind.i64.max) := fun d => by
    have : (ba [d]).size = 1 := rfl
    rw [this]
    show ¬ (((1 + s.size : Nat) : Int) > 9223372036854775807)
    omega
  refine ⟨_, _, rfl, H21.nw fun w22 _ H22 => ⟨ba [c], one_byte rfl (H22.ob 4), big c, led c w22 _ [_, _] _ H22 fun w23 H23 => ⟨_, _, rfl, ?_⟩⟩⟩
  have ed : IntKind.wrap .u8 ((c.toNat : Int) + 1) = (((c + 1).toNat : Nat) : Int) := by
    rw [IntKind.wrap_u8, UInt8.toNat_add]
    simp
  refine H23.nw fun w24 _ H24 => ⟨ba [c + 1], one_byte ed (H24.ob 5), big (c + 1), led (c + 1) w24 _ [_, _] _ H24 fun w25 H25 => ⟨_, _, rfl, ?_⟩⟩
  refine H25.nw fun w26 _ H26 => ?_
  have hne : decide (c + 1 = c) = false := by
    refine decide_eq_false fun h => ?_
    have := congrArg UInt8.toNat h
    rw [UInt8.toNat_add] at this
    simp at this
    have := c.toNat_lt
    omega
  have hstar := sets_star (bl s) ta.rx s.size
  have hempty : (s.size == 0) = (s.toList == (ByteArray.mk #[]).toList) := by
    rw [ByteArray.toList_eq, ByteArray.toList_eq, Bool.eq_iff_iff, beq_iff_eq, beq_iff_eq]
    show s.size = 0 ↔ s.data.toList = []
    rw [← List.length_eq_zero_iff]
    rfl
  refine loop2 s _ _ _ _ _ _ _ _ _ ?_ ?_ ?_ ?_ ?_ ?_ w25.heap.size 8 0 w26 _ _ (by omega) H26 (List.mem_of_getElem? (i := 6) rfl)
  · exact sets_or (bl s) ta.rx tb.rx s.size
  · exact sets_and (bl s) ta.rx tb.rx s.size
  · exact sets_not (bl s) ta.rx s.size
  · simp
  · rw [hne]; rfl
  · rw [← hempty]
    exact hstar
theorem loop1 {w : World} {c : UInt8} {ta tb : Rt} {b9 b10 : Nat} (sa : ta.sz ≤ 22) (sb : tb.sz ≤ 22) (ga : goodR ta.rx = true) (gb : goodR tb.rx = true) {ws : Sl} {zs : List Int} (hz : ∀ z ∈ zs, I64 z) : ∀ (d i : Nat) (s : ByteArray) (w1 : World), i + d = 12 → s.size ≤ 5 * i → LH F0 w w1 [.g b9, .g b10] [.rd ws (zs.map intV), .tree ta, .tree tb] →
    enthymemelaw04_RegexSets.L0T ws (c.toNat : Int) b9 ta.k ta.lo.toNat ta.hi.toNat ta.s b10 tb.k tb.lo.toNat tb.hi.toNat tb.s s (i : Int) w1 fun r w' => r = .returned (.bool true) ∧ Fr0 w w' := by
  intro d
  induction d with
  | zero =>
    intro i s w1 hi hs H
    exact enthymemelaw04_RegexSets.L0T_step _ _ _ _ _ _ _ _ _ _ _ _ _ _ _ _ (sel_dec (fun _ => sel_false (decide_eq_false (by omega)) (s1 (by omega) sa sb ga gb H)) (fun _ => s1 (by omega) sa sb ga gb H))
  | succ d ih =>
    intro i s w1 hi hs H
    have hn := Nums.len (show Nums w1 ws zs from H.getD 0)
    refine enthymemelaw04_RegexSets.L0T_step _ _ _ _ _ _ _ _ _ _ _ _ _ _ _ _ (sel_dec (fun hlt => sel_true (decide_eq_true (by omega)) ⟨by omega, hlt, ?_⟩) (fun _ => s1 (by omega) sa sb ga gb H))
    have hg : zs[i]? = some (zs[i]'(by omega)) := List.getElem?_eq_getElem (by omega)
    have hI := hz _ (List.mem_of_getElem? hg)
    generalize zs[i]'(by omega) = z at hg hI
    refine Nums.cell (show Nums w1 ws zs from H.getD 0) hg (by simp) fun p _ hp => ⟨z, hp, H.callg (c_Word z hI w1) ?_⟩
    rintro _ w2 ⟨t, rfl, ht⟩ H2
    have hsz : (s ++ t).size = s.size + t.size := by simp
    refine ⟨t, rfl, ?_, ?_⟩
    · show ¬ (((s.size + t.size : Nat) : Int) > 9223372036854775807)
      omega
    · rw [i64_next _ (by omega)]
      exact ih (i + 1) (s ++ t) w2 (by omega) (by omega) H2
theorem walk (l m ws : Sl) (c : Int) (w : World) (hl : ArgNums w l) (hm : ArgNums w m) (hw : ArgNums w ws) (hc : 0 ≤ c ∧ c ≤ 255) :
    Calls Try.prog n_enthymemelaw04_RegexSets #[l.v, m.v, ws.v, .int .u8 c] w fun r w' => r = .returned (.bool true) ∧ Fr0 w w' := by
  obtain ⟨xs, hls, _, hx⟩ := hl
  obtain ⟨ys, hms, _, hy⟩ := hm
  obtain ⟨zs, hws, _, hz⟩ := hw
  obtain ⟨k, rfl⟩ := Int.eq_ofNat_of_zero_le hc.1
  obtain ⟨c, hk⟩ : ∃ c : UInt8, c.toNat = k := ⟨UInt8.ofNat k, by rw [UInt8.toNat_ofNat']; omega⟩
  subst hk
  have H0 : LH F0 w w [] [.rd ws (zs.map intV), .rd m (ys.map intV)] := lh0 _ (by
    intro e he
    simp only [List.mem_cons, List.not_mem_nil, or_false] at he
    rcases he with rfl | rfl
    · exact hws
    · exact hms)
  refine enthymemelaw04_RegexSets.okT _ _ _ _ w _ (H0.callq (c_Made l xs w hls hx) ?_)
  rintro _ w1 ⟨t1, rfl, p1, n1, z1, g1⟩ _ F1
  have H1 := F1.rd (.tree t1) p1 fun b hb => n1 b (mem_nub.1 hb)
  refine ⟨_, _, _, t1.s, rfl, H1.callq (c_own t1 w1 (by omega) (H1.getD 2)) ?_⟩
  rintro _ w2 ⟨ta, rfl, ea, pa, na⟩ _ F2
  have H2 := F2.rd (.tree ta) pa fun b hb => na b (mem_nub.1 hb)
  have sa : ta.sz ≤ 22 := by rw [← Rt.rx_sz, ea, Rt.rx_sz]; exact z1
  refine ⟨_, _, _, ta.s, rfl, H2.newg fun b9 w3 H3 => H3.locg fun w7 H7 => H7.callr (c_Made m ys w7 (H7.getD 1) hy) ?_⟩
  rintro _ w8 ⟨t2, rfl, p2, n2, z2, g2⟩ _ F8
  have H8 := F8.rd (.tree t2) p2 fun b hb => n2 b (mem_nub.1 hb)
  refine ⟨_, _, _, t2.s, rfl, H8.callr (c_own t2 w8 (by omega) (H8.getD 4)) ?_⟩
  rintro _ w9 ⟨tb, rfl, eb, pb, nb⟩ _ F9
  have H9 := F9.rd (.tree tb) pb fun b hb => nb b (mem_nub.1 hb)
  have sb : tb.sz ≤ 22 := by rw [← Rt.rx_sz, eb, Rt.rx_sz]; exact z2
  refine ⟨_, _, _, tb.s, rfl, H9.newg fun b10 w10 H10 => H10.locg fun w14 H14 => ?_⟩
  have H15 : LH F0 w w14 [.g b9, .g b10] [.rd ws (zs.map intV), .tree ta, .tree tb] := H14.forget _ (by simp)
  exact loop1 sa sb (by rw [ea]; exact g1) (by rw [eb]; exact g2) hz 12 0 (ByteArray.mk #[]) w14 (by omega) (by show 0 ≤ _; omega) H15
end Set'
end Go.Proofs.Ytknlbofiicflgaa
