/- enthymemelaw02.WireWrites returns true for every input and writes nothing that was there before. -/
import Derived.Test.YtjmnpdacalbpkaaWY
import Derived.Test.YtjmnpdacalbpkaaVF
namespace Go.Proofs.Ytjmnpdacalbpkaa
open Go Go.W
theorem RdVals.take {A : Nat → Prop} {w : World} {s : Sl} {vs : List V} (h : RdVals A w s vs) (k : Nat) (hk : k ≤ vs.length) : RdVals A w ⟨s.a, k, s.c⟩ (vs.take k) := by
  have hl := h.len
  obtain ⟨cs, h1, h2, h3, h4, h5⟩ := h
  have e := h4.length
  have take2 : ∀ (k : Nat) {l : List VC} {m : List V}, All2 (VIs A w) l m → All2 (VIs A w) (l.take k) (m.take k) := by
    intro k
    induction k with
    | zero => intro l m _; simp [All2]
    | succ k ih =>
      intro l m h
      cases l with
      | nil => cases m with
        | nil => simp [All2]
        | cons => exact h.elim
      | cons a l => cases m with
        | nil => exact h.elim
        | cons b m => exact ⟨h.1, ih h.2⟩
  refine ⟨cs.take k, by simp; omega, by simp only; omega, ⟨fun ha => by have := h3.1 ha; simp only; omega, fun i v hv => ?_⟩, take2 k h4, h5⟩
  have : (cs.flatMap vcells)[i]? = some v := by
    rw [← List.take_append_drop k cs, List.flatMap_append, List.getElem?_append_left (List.getElem?_eq_some_iff.1 hv).1]
    exact hv
  exact h3.2 i v this
theorem slice_a0 (a : Option Addr) (c k : Nat) : (if c = 0 then a else a.map (·.add (0 * k))) = a := by
  split
  · rfl
  · cases a <;> simp [Addr.add]
namespace Wri
theorem loop {w0 : World} {A : Nat → Prop} {all : Sl} {vs : List V} (ok : ∀ v ∈ vs, V.Ok v) (hl : vs.length ≤ 100) {wb lo : Nat} (hA : ∀ x, A x → x < lo) (hlo : w0.heap.size ≤ lo) :
    ∀ (d i : Nat), i + d = vs.length → ∀ (w : World) (own : List Nat), lo ≤ w.heap.size → Fr0 w0 w → RdVals A w all vs → WrRep w wb ((vs.take i).flatMap encV) own → (∀ x ∈ own, lo ≤ x) →
      enthymemelaw02_WireWrites.L4 all (at0 wb) (i : Int) w fun r w' => r = .returned (.bool true) ∧ Fr0 w0 w' := by
  intro d
  induction d with
  | zero =>
    intro i hi w own hlw F hv hr ho
    refine enthymemelaw02_WireWrites.L4_step _ _ _ _ _ (sel_false (decide_eq_false (by rw [hv.len]; omega)) ((lives_any w).mono ?_))
    rintro r w1 ⟨rfl, f1⟩
    exact ⟨_, rfl, rfl, F.tr0 f1⟩
  | succ d ih =>
    intro i hi w own hlw F hv hr ho
    have hn := hv.len
    have hlt : i < vs.length := by omega
    have hg : vs[i]? = some vs[i] := List.getElem?_eq_getElem hlt
    have hok := ok _ (List.getElem_mem hlt)
    have htake : (vs.take (i + 1)).flatMap encV = (vs.take i).flatMap encV ++ encV vs[i] := by
      rw [List.take_add_one, hg, List.flatMap_append]; simp
    generalize vs[i] = v at hg hok htake
    obtain ⟨p, c, hp, hc, hx⟩ := hv.elem3 hg
    have xw := hx _ _ (Fr.refl (fun _ => False) w) (fun _ _ h => h)
    have fl := flatV_len (vs.take i) fun u hu => ok u (List.mem_of_mem_take hu)
    have fl2 := flatV_len (vs.take (i + 1)) fun u hu => ok u (List.mem_of_mem_take hu)
    rw [List.length_take] at fl fl2
    refine enthymemelaw02_WireWrites.L4_step _ _ _ _ _ (sel_true (decide_eq_true (by omega)) ⟨by omega, by omega, optP_mk hp ⟨_, _, _, _, _, xw 0 _ rfl, xw 1 _ rfl, xw 2 _ rfl, xw 3 _ rfl, xw 4 _ rfl, ?_⟩⟩)
    refine (l_write hr hc hok (fun x hx => ⟨fun h => by have := ho x h; have := hA x hx; omega, by have := hA x hx; omega⟩) (by omega)).mono ?_
    rintro r w1 ⟨rfl, own1, r1, f1, o1⟩
    rw [← htake] at r1
    have s1 := f1.size
    have F1 := fr_own F (fun x hx => by have := ho x hx; omega) f1
    have ho1 : ∀ x ∈ own1, lo ≤ x := fun x hx => by
      rcases o1 x hx with h | h
      · exact ho x h
      · omega
    have hv1 := hv.fr f1 fun x hx hm => by have := ho x hm; have := hA x hx; omega
    obtain ⟨cs, _, hcap, _⟩ := id hv
    refine ⟨rfl, ?_⟩
    unfold enthymemelaw02_WireWrites.S7
    rw [i64_next i (by omega)]
    refine ⟨by omega, by omega, (w_done (r1.fr0 (Fr.drew _ _)) (by omega)).mono ?_⟩
    rintro r w2 ⟨t, rfl, t2, f2, _⟩
    have f12 : Fr0 w1 w2 := (Fr.drew _ w1).tr0 f2
    refine ⟨t, rfl, ?_⟩
    rw [slice_a0, Int.toNat_natCast, Nat.sub_zero, Nat.sub_zero]
    refine (e_encode (s := ⟨all.a, i + 1, all.c⟩) ((hv1.fr0 f12).take (i + 1) (by omega)) (fun u hu => ok u (List.mem_of_mem_take hu)) (by simp; omega)).mono ?_
    rintro r w3 ⟨u, rfl, u3, f3, _⟩
    refine ⟨u, rfl, (same_bytes (t2.fr0 f3).rd u3.rd (by omega)).mono ?_⟩
    rintro r w4 ⟨rfl, f4⟩
    have f14 : Fr0 w1 w4 := f12.tr0 (f3.tr0 f4)
    refine ⟨_, rfl, sel_false (by simp) ?_⟩
    show enthymemelaw02_WireWrites.L4 all (at0 wb) (IntKind.wrap .i64 ((i : Int) + 1)) w4 _
    rw [i64_next i (by omega)]
    have s4 := f14.size
    exact ih (i + 1) (by omega) w4 own1 (by omega) (F1.tr0 f14) (hv1.fr0 f14) (r1.fr0 f14) ho1
theorem walk (ls : Sl) (u n : Int) (bs list : Sl) (w : World) (hls : ArgNums w ls) (hu : U64 u) (hn : I64 n) (hb : ArgBytes w bs) (hlist : ArgNums w list) :
    Calls Try.prog n_enthymemelaw02_WireWrites #[ls.v, .int .u64 u, .int .i64 n, bs.v, list.v] w fun r w' => r = .returned (.bool true) ∧ Fr0 w w' := by
  obtain ⟨l, hls, _, hli⟩ := hls
  obtain ⟨bl, hb, _⟩ := hb
  obtain ⟨nl, hlist, _, hni⟩ := hlist
  obtain ⟨m, rfl⟩ := Int.eq_ofNat_of_zero_le hu.1
  have hum : m < 18446744073709551616 := by have := hu.2; omega
  refine enthymemelaw02_WireWrites.ok _ _ _ _ _ w _ ((r_vals hls hli).mono ?_)
  rintro r w1 ⟨s, vs, rfl, hl, hg, f1, o1⟩
  refine ⟨s, rfl, (few_any (hb.fr0 f1) 200 (by omega)).mono ?_⟩
  rintro r w2 ⟨fb, rfl, b2, f2, n2⟩
  refine ⟨fb, rfl, (ints_any (hlist.fr0 (f1.tr0 f2)) 20 (by omega)).mono ?_⟩
  rintro r w3 ⟨fl, rfl, l3, f3, n3⟩
  refine ⟨fl, rfl, ?_⟩
  intro w4
  have f4 : Fr0 w3 w4 := Fr.alloc _ _ _
  have hs4 : w4.heap.size = w3.heap.size + 1 := size_alloc _ _
  have s1 := f1.size
  have s2 := f2.size
  have s3 := f3.size
  have f14 : Fr0 w1 w4 := f2.tr0 (f3.tr0 f4)
  have h4 : ∀ x ∈ blkL s, w.heap.size ≤ x ∧ x < w1.heap.size := by obtain ⟨_, _, _, _, h4⟩ := o1; exact h4
  have hr : CRow w4 ⟨some ⟨w3.heap.size, 0, none⟩, 5, 5⟩ ([(⟨0, m, 0, ⟨none, 0, 0⟩, ⟨none, 0, 0⟩⟩ : VC), ⟨1, 0, n, ⟨none, 0, 0⟩, ⟨none, 0, 0⟩⟩, ⟨4, 0, 0, fb, ⟨none, 0, 0⟩⟩, ⟨5, 0, 0, ⟨none, 0, 0⟩, fl⟩, ⟨2, 0, 1, ⟨none, 0, 0⟩, ⟨none, 0, 0⟩⟩].flatMap vcells) := (Row.made w3 ty_enthymemeref02_Val 5 5 _).crow
  have nb : ∀ {y : Nat}, y ∈ blkL (⟨none, 0, 0⟩ : Sl) → False := fun h => by simp [blkL] at h
  have lb := b2.lt
  have ll := l3.lt
  obtain ⟨s', w5, g1, g2, g3, g4⟩ := append_vals (ty := ty_sl_enthymemeref02_Val) (o1.fr0 f14) (by omega) hr rfl (vs' := [⟨0, m, 0, [], []⟩, ⟨1, 0, n, [], []⟩, ⟨4, 0, 0, bl.take 200, []⟩, ⟨5, 0, 0, [], nl.take 20⟩, ⟨2, 0, 1, [], []⟩])
    ⟨⟨rfl, rfl, rfl, Rd.nil _, Rd.nil _, fun y hy => (nb hy).elim, fun y hy => (nb hy).elim⟩, ⟨rfl, rfl, rfl, Rd.nil _, Rd.nil _, fun y hy => (nb hy).elim, fun y hy => (nb hy).elim⟩,
     ⟨rfl, rfl, rfl, (b2.fr0 (f3.tr0 f4)).rd, Rd.nil _, fun y hy => ⟨by have := n2 y hy; omega, by have := lb y hy; omega, fun hm => by have := n2 y hy; have := h4 y hm; omega⟩, fun y hy => (nb hy).elim⟩,
     ⟨rfl, rfl, rfl, Rd.nil _, (l3.fr0 f4).rd, fun y hy => (nb hy).elim, fun y hy => ⟨by have := n3 y hy; omega, by have := ll y hy; omega, fun hm => by have := n3 y hy; have := h4 y hm; omega⟩⟩,
     ⟨rfl, rfl, rfl, Rd.nil _, Rd.nil _, fun y hy => (nb hy).elim, fun y hy => (nb hy).elim⟩, trivial⟩ (by simp; omega) (by omega)
  have hg' : ∀ v ∈ vs ++ [⟨0, m, 0, [], []⟩, ⟨1, 0, n, [], []⟩, ⟨4, 0, 0, bl.take 200, []⟩, ⟨5, 0, 0, [], nl.take 20⟩, ⟨2, 0, 1, [], []⟩], V.Ok v := fun v hv => by
    rcases List.mem_append.1 hv with h | h
    · exact (hg v h).ok
    · simp only [List.mem_cons, List.not_mem_nil, or_false] at h
      rcases h with rfl | rfl | rfl | rfl | rfl
      · exact ⟨hum, by simp only; omega, by simp, by simp, by simp⟩
      · exact ⟨by simp, hn, by simp, by simp, by simp⟩
      · exact ⟨by simp, by simp only; omega, by simp; omega, by simp, by simp⟩
      · exact ⟨by simp, by simp only; omega, by simp, by simp; omega, fun x hx => hni x (List.mem_of_mem_take hx)⟩
      · exact ⟨by simp, by simp only; omega, by simp, by simp, by simp⟩
  generalize hvs' : vs ++ [⟨0, m, 0, [], []⟩, ⟨1, 0, n, [], []⟩, ⟨4, 0, 0, bl.take 200, []⟩, ⟨5, 0, 0, [], nl.take 20⟩, ⟨2, 0, 1, [], []⟩] = vs' at g2 hg'
  have hl' : vs'.length ≤ 13 := by rw [← hvs']; simp; omega
  have F5 : Fr0 w w5 := (f1.tr0 f14).trn g3 fun x hx => (h4 x hx).1
  refine ⟨s', w5, g1, ?_⟩
  unfold enthymemelaw02_WireWrites.S2
  intro w6
  have f6 : Fr0 w5 w6 := Fr.alloc _ _ _
  have s5 := F5.size
  have hs6 : w6.heap.size = w5.heap.size + 1 := size_alloc _ _
  exact loop (lo := w5.heap.size) hg' (by omega) (fun x hx => hx.2) s5 vs'.length 0 (by omega) w6 _ (by omega) (F5.tr0 f6) (g2.rd.fr0 f6) (WrRep.new w5) (by simp)
end Wri
end Go.Proofs.Ytjmnpdacalbpkaa
