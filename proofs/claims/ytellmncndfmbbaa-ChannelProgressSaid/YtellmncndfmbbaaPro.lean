/- enthymemelaw38.ChannelProgress returns true for every window, both numbers of messages and every number of lost rounds, and writes nothing that was there before. -/
import Derived.Test.YtellmncndfmbbaaC5
import Derived.Test.YtellmncndfmbbaaV5
namespace Go.Proofs.Ytellmncndfmbbaa
open Go Go.W
namespace Pro

/-! ### The plain part -/
def msg (i : Nat) : List UInt8 := [UInt8.ofNat i]
def S (win : Int) (M a d : Nat) (ow : Bool) : St := ⟨win, M, d, ((List.range M).drop a).map msg, [], ow⟩
theorem S_len (win : Int) (M a d : Nat) (ow : Bool) : (S win M a d ow).wait.length = M - a := by simp [S]
theorem S_ack (win : Int) (M a d : Nat) (ow : Bool) (h : a ≤ M) : ackOf (S win M a d ow) = a := by
  unfold ackOf
  rw [S_len]
  simp only [S]
  omega
theorem S_ok (win : Int) (M a d : Nat) (ow : Bool) (h1 : 1 ≤ win) (h2 : win ≤ 16) (hM : M ≤ 1000) (hd : d ≤ 1000) : (S win M a d ow).Ok := by
  have hl := S_len win M a d ow
  refine ok_of _ (by simp [S]) (by simp [S]; omega) (by simp [S]) (by simp [S]; omega) (by omega) (by rw [hl]; simp only [S]; omega) ?_ (by simp [S]) h1 h2
  intro m hm
  obtain ⟨i, _, rfl⟩ := List.mem_map.1 hm
  simp [msg]
theorem S_send (win : Int) (i d : Nat) (ow : Bool) : sendSt (S win i 0 d ow) (msg i) = S win (i + 1) 0 d ow := by
  unfold sendSt S
  simp only [St.mk.injEq, true_and, and_true, List.drop_zero]
  refine ⟨by omega, ?_⟩
  rw [List.range_succ, List.map_append]
  rfl
def outN' (win : Int) (M a : Nat) : Nat := min win.toNat (M - a)
theorem S_out (win : Int) (M a d : Nat) (ow : Bool) (ha : a ≤ M) : outList (S win M a d ow) = if outN' win M a = 0 ∧ ow = true then [⟨0, d, []⟩] else (List.range (outN' win M a)).map fun i => ⟨(a + i + 1 : Nat), d, msg (a + i)⟩ := by
  have e1 : outN (S win M a d ow) = outN' win M a := by unfold outN outN'; rw [S_len]; rfl
  unfold outList
  rw [e1]
  show (if outN' win M a = 0 ∧ ow = true then _ else _) = _
  split
  · rfl
  · refine List.map_congr_left fun i hi => ?_
    have hi' : i < outN' win M a := by simpa using hi
    have hlt : i < M - a := by unfold outN' at hi'; omega
    unfold outPk
    rw [S_ack _ _ _ _ _ ha]
    simp only [S, Pk.mk.injEq, true_and]
    refine ⟨by omega, ?_⟩
    simp [List.getD, hlt]

structure RS where
  a : Nat
  d : Nat
  ow : Bool
def recv (p : Pk) (s : RS) : RS := if p.seq = 0 then ⟨max s.a p.ack.toNat, s.d, s.ow⟩ else ⟨max s.a p.ack.toNat, max s.d p.seq.toNat, true⟩
def OkPk (M : Nat) (p : Pk) (s : RS) : Prop := 0 ≤ p.ack ∧ p.ack ≤ M ∧ ((p.seq = 0 ∧ p.b = []) ∨ ∃ i : Nat, i ≤ s.d ∧ p.seq = (i + 1 : Nat) ∧ p.b = msg i)
def got (p : Pk) (s : RS) : List (List UInt8) := if p.seq = (s.d + 1 : Nat) then [msg s.d] else []
theorem in_ackS (win : Int) (M : Nat) (s : RS) (k : Nat) (ha : s.a ≤ M) : inAck (S win M s.a s.d s.ow) k = S win M (max s.a k) s.d s.ow := by
  unfold inAck
  rw [S_ack _ _ _ _ _ ha]
  split
  · have e : (((k : Int) - (s.a : Int)).toNat) = k - s.a := by omega
    rw [e]
    unfold S
    simp only [St.mk.injEq, true_and, and_true]
    rw [← List.map_drop, List.drop_drop]
    congr 2
    omega
  · rw [show max s.a k = s.a by omega]
theorem in_pk (win : Int) (M : Nat) (p : Pk) (s : RS) (h : OkPk M p s) (ha : s.a ≤ M) : inSt (S win M s.a s.d s.ow) p.seq p.ack p.b = (S win M (recv p s).a (recv p s).d (recv p s).ow, got p s) := by
  obtain ⟨q, a, b⟩ := p
  obtain ⟨h1, h2, h3⟩ := h
  simp only at h1 h2 h3
  obtain ⟨k, rfl⟩ := Int.eq_ofNat_of_zero_le h1
  have hkM : k ≤ M := by omega
  unfold inSt
  rcases h3 with ⟨rfl, rfl⟩ | ⟨i, hi, rfl, rfl⟩
  · rw [if_neg (by simp [validB, S]; omega), if_pos rfl, in_ackS _ _ _ _ ha]
    simp [recv, got]
    omega
  · have hq0 : ¬ ((i + 1 : Nat) : Int) = 0 := by omega
    rw [if_neg (by simp [validB, S, msg]; omega), if_neg hq0, in_ackS _ _ _ _ ha]
    simp only [recv, hq0, if_false, Int.toNat_natCast, got]
    by_cases hid : i = s.d
    · subst hid
      have e1 : inHold (S win M (max s.a k) s.d s.ow) ((s.d + 1 : Nat) : Int) (msg s.d) = { S win M (max s.a k) s.d true with held := [(((s.d + 1 : Nat) : Int), msg s.d)] } := by
        unfold inHold
        rw [if_pos ⟨by simp [S, mgetB], by simp [S]; omega⟩]
        simp [S]
      rw [e1]
      rw [if_pos rfl, show max s.d (s.d + 1) = s.d + 1 by omega]
      have e2 : ((s.d + 1 : Nat) : Int) = (s.d : Int) + 1 := by omega
      simp only [List.length_cons, List.length_nil, drain, S, mgetB, e2]
      simp
    · rw [if_neg (by omega), show max s.d (i + 1) = s.d by omega]
      have e1 : inHold (S win M (max s.a k) s.d s.ow) ((i + 1 : Nat) : Int) (msg i) = S win M (max s.a k) s.d true := by
        unfold inHold
        rw [if_neg (by simp [S]; omega)]
        simp [S]
      rw [e1]
      simp [drain, S, mgetB]
theorem recv_d (M : Nat) (p : Pk) (s : RS) (h : OkPk M p s) : (recv p s).d = s.d + (got p s).length := by
  unfold recv got
  rcases h.2.2 with ⟨hq, _⟩ | ⟨i, hi, hq, _⟩
  · rw [if_pos hq, if_neg (by rw [hq]; omega)]
    simp
  · rw [if_neg (by rw [hq]; omega), hq]
    split
    · simp; omega
    · simp; omega
theorem recv_a (M : Nat) (p : Pk) (s : RS) (h : OkPk M p s) (ha : s.a ≤ M) : (recv p s).a ≤ M := by
  unfold recv
  have h1 := h.1
  have h2 := h.2.1
  split <;> (simp only; omega)

def Good (M B : Nat) : List Pk → RS → Prop
  | [], _ => True
  | p :: l, s => OkPk M p s ∧ s.a ≤ M ∧ (recv p s).d ≤ B ∧ Good M B l (recv p s)

/-- a whole window, in order -/
theorem recv_range (a dk : Nat) (s : RS) (has : a ≤ s.d) : ∀ n, ((List.range n).map fun i => (⟨(a + i + 1 : Nat), dk, msg (a + i)⟩ : Pk)).foldl (fun s p => recv p s) s = ⟨if n = 0 then s.a else max s.a dk, max s.d (a + n), if n = 0 then s.ow else true⟩
  | 0 => by simp; rw [show max s.d a = s.d by omega]
  | n + 1 => by
    rw [List.range_succ, List.map_append, List.foldl_append, recv_range a dk s has n]
    simp only [List.map_cons, List.map_nil, List.foldl_cons, List.foldl_nil, recv]
    rw [if_neg (by omega)]
    simp only [RS.mk.injEq]
    refine ⟨?_, by omega, by simp⟩
    split <;> simp <;> omega
theorem good_append (M B : Nat) : ∀ (l l' : List Pk) (s : RS), Good M B l s → Good M B l' (l.foldl (fun s p => recv p s) s) → Good M B (l ++ l') s
  | [], _, _, _, h => h
  | _ :: l, l', _, h, h' => ⟨h.1, h.2.1, h.2.2.1, good_append M B l l' _ h.2.2.2 h'⟩
theorem good_range (M B a dk : Nat) (s : RS) (has : a ≤ s.d) (hdk : dk ≤ M) (ha : s.a ≤ M) (hB : s.d ≤ B) : ∀ n, a + n ≤ B → Good M B ((List.range n).map fun i => (⟨(a + i + 1 : Nat), dk, msg (a + i)⟩ : Pk)) s
  | 0, _ => trivial
  | n + 1, hn => by
    rw [List.range_succ, List.map_append]
    refine good_append M B _ _ s (good_range M B a dk s has hdk ha hB n (by omega)) ?_
    rw [recv_range a dk s has n]
    refine ⟨⟨by simp, by simpa using hdk, .inr ⟨a + n, by simp only; omega, rfl, rfl⟩⟩, ?_, ?_, trivial⟩
    · simp only; split <;> omega
    · simp only [recv]; rw [if_neg (by omega)]; simp only [Int.toNat_natCast]; omega

/-! ### The walk -/
structure Inv (w0 w : World) (be bm bg : Nat) (eb : Nat → Nat) (win : Nat → Int) (M a d : Nat → Nat) (ow : Nat → Bool) (own : Nat → List Nat) : Prop where
  two : Two w0 w be eb (fun k => S (win k) (M k) (a k) (d k) (ow k)) own
  many : w.heap[bm]? = some (.cells #[.int .i64 (M 0), .int .i64 (M 1)] ty_int (0, 0))
  got : w.heap[bg]? = some (.cells #[.int .i64 (d 0), .int .i64 (d 1)] ty_int (0, 0))
  ng : w0.heap.size ≤ bg
  ne : bm ≠ bg
abbrev sl2 (b : Nat) : Sl := ⟨some (at0 b), 2, 2⟩
abbrev Fin (w0 : World) : Post := fun r w' => r = .returned (.bool true) ∧ Fr0 w0 w'
theorem two_congr {w0 w : World} {be : Nat} {eb : Nat → Nat} {st st' : Nat → St} {own own' : Nat → List Nat} (h : Two w0 w be eb st own) (hs : ∀ k, k < 2 → st k = st' k) (ho : ∀ k, k < 2 → own k = own' k) : Two w0 w be eb st' own' :=
  ⟨h.fr, h.nbe, h.row, fun k hk => by rw [← hs k hk, ← ho k hk]; exact h.rep k hk, fun k hk => by rw [← ho k hk]; exact h.new k hk, fun j k hj hk => by rw [← ho k hk, ← ho j hj]; exact h.dis j k hj hk⟩
theorem Inv.fr0 {w0 w w' : World} {be bm bg : Nat} {eb : Nat → Nat} {win : Nat → Int} {M a d : Nat → Nat} {ow : Nat → Bool} {own : Nat → List Nat} (h : Inv w0 w be bm bg eb win M a d ow own) (f : Fr0 w w') : Inv w0 w' be bm bg eb win M a d ow own :=
  ⟨h.two.fr0 f, f.at h.many id, f.at h.got id, h.ng, h.ne⟩
theorem cell2 {w : World} {b : Nat} {x y : Int} (h : w.heap[b]? = some (.cells #[.int .i64 x, .int .i64 y] ty_int (0, 0))) {k j : Nat} (hk : k < 2) (hj : j = k * 1) : w.cell? ((at0 b).add j) = some (.int .i64 (if k = 0 then x else y)) := by
  subst hj
  rw [Nat.mul_one]
  refine cellAt (p := at0 b) h rfl ?_
  match k, hk with
  | 0, _ => rfl
  | 1, _ => rfl
theorem nat2 {x : Nat → Nat} {k : Nat} (hk : k < 2) : (if k = 0 then ((x 0 : Nat) : Int) else ((x 1 : Nat) : Int)) = ((x k : Nat) : Int) := by
  match k, hk with
  | 0, _ => rfl
  | 1, _ => rfl

section
variable {w0 : World} {be bm bg : Nat} {eb : Nat → Nat} {win : Nat → Int} {M : Nat → Nat}

/-- the messages that one packet brings -/
theorem l33 (k : Nat) (hk : k < 2) (rnd : Int) (p : Sl) (i : Int) (x : Sl) (out : List (List UInt8)) (R : Post) (w : World) (a d : Nat → Nat) (ow : Nat → Bool) (own : Nat → List Nat)
    (two : Two w0 w be eb (fun j => S (win j) (M j) (a j) (upd d (1 - k) (d (1 - k) + out.length) j) (ow j)) own)
    (many : w.heap[bm]? = some (.cells #[.int .i64 (M 0), .int .i64 (M 1)] ty_int (0, 0))) (gotB : w.heap[bg]? = some (.cells #[.int .i64 (d 0), .int .i64 (d 1)] ty_int (0, 0))) (ng : w0.heap.size ≤ bg) (ne : bm ≠ bg)
    (hd : d (1 - k) ≤ 200) (hout : out = [] ∨ out = [msg (d (1 - k))]) (hx : Msgs w x out)
    (next : ∀ w', Inv w0 w' be bm bg eb win M a (upd d (1 - k) (d (1 - k) + out.length)) ow own → Fr (· = bg) w w' → enthymemelaw38_ChannelProgress.S39 (sl2 be) (sl2 bm) (sl2 bg) rnd k p i w' R) :
    enthymemelaw38_ChannelProgress.L33 (sl2 be) (sl2 bm) (sl2 bg) rnd k p i x 0 w R := by
  have hk1 : 1 - k < 2 := by omega
  have hxn := hx.len
  have e1k : IntKind.wrap .i64 ((1 : Int) - (k : Int)) = ((1 - k : Nat) : Int) := by rw [IntWalk.i64_in _ (by omega)]; omega
  refine enthymemelaw38_ChannelProgress.L33_step _ _ _ _ _ _ _ _ _ _ _ ?_
  unfold enthymemelaw38_ChannelProgress.S34
  rcases hout with rfl | rfl
  · refine sel_false (by rw [hxn]; simp) (next w ⟨two, many, ?_, ng, ne⟩ (Fr.refl _ _))
    have e : upd d (1 - k) (d (1 - k) + ([] : List (List UInt8)).length) = d := by funext j; unfold upd; split <;> simp_all
    rw [e]; exact gotB
  · have fd : Fr0 w w.drew := Fr.drew _ _
    refine sel_true (by rw [hxn]; simp) ?_
    unfold enthymemelaw38_ChannelProgress.S35
    rw [e1k]
    have hxd : Msgs w.drew x [msg (d (1 - k))] := hx.fr fd (fun _ _ h => h) fun _ h => h.elim
    refine ⟨by omega, by rw [hxn]; simp, hxd.at (i := 0) rfl rfl fun pa sb hb hc => ⟨sb, hc, ?_⟩⟩
    have hsn : sb.n = 1 := by rw [hb.1]; rfl
    refine sel_false (by rw [hsn]; rfl) ⟨by omega, by rw [hxn]; simp, hxd.at (i := 0) rfl rfl fun pa sb hb hc => ⟨sb, hc, ?_⟩⟩
    have hsn : sb.n = 1 := by rw [hb.1]; rfl
    have hbyte : (UInt8.ofNat (d (1 - k))).toNat = d (1 - k) := by simp; omega
    refine ⟨by omega, by rw [hsn]; simp, hb.2.optP (i := 0) (v := byteV (UInt8.ofNat (d (1 - k)))) rfl fun pb _ hcell => ⟨_, hcell 0 _ rfl, ?_⟩⟩
    rw [hbyte]
    refine ⟨by omega, by simp; omega, ?_⟩
    show W.optP (some (at0 bg)) _
    have hg := cell2 (w := w.drew) gotB hk1 (j := Int.toNat ((1 - k : Nat) : Int) * 1) (by simp)
    rw [nat2 hk1] at hg
    refine ⟨_, hg, ?_⟩
    refine sel_false ?_ ?_
    · rw [show IntKind.wrap .i64 ((d (1 - k) : Nat) : Int) = ((d (1 - k) : Nat) : Int) from IntWalk.i64_in _ (by omega)]
      simp
    · unfold enthymemelaw38_ChannelProgress.S37
      rw [e1k]
      refine ⟨by omega, by simp; omega, ?_⟩
      show W.optP (some (at0 bg)) _
      refine ⟨_, hg, by omega, by simp; omega, ?_⟩
      show W.optP (some (at0 bg)) _
      refine ⟨by rw [hg]; rfl, frozenAt (p := at0 bg) (w := w.drew) gotB, ?_⟩
      intro w1
      unfold enthymemelaw38_ChannelProgress.S38
      have ed : IntKind.wrap .i64 (((d (1 - k) : Nat) : Int) + 1) = ((d (1 - k) + 1 : Nat) : Int) := by rw [IntWalk.i64_in _ (by omega)]; omega
      have c1 : w1.heap[bg]? = _ := setAt (p := at0 bg) (w := w.drew) (i := Int.toNat ((1 - k : Nat) : Int) * 1) (v := .int .i64 (IntKind.wrap .i64 (((d (1 - k) : Nat) : Int) + 1))) gotB rfl
      have f1 : Fr (· = bg) w w1 := (Fr.drew (· = bg) w).trans (Fr.set (M := (· = bg)) w.drew _ _ (add_block _ _)) fun _ _ h => h
      rw [ed] at c1
      have g1 : w1.heap[bg]? = some (.cells #[.int .i64 (upd d (1 - k) (d (1 - k) + 1) 0 : Nat), .int .i64 (upd d (1 - k) (d (1 - k) + 1) 1 : Nat)] ty_int (0, 0)) := by
        rw [c1]
        have hk' : k = 0 ∨ k = 1 := by omega
        rcases hk' with rfl | rfl
        · simp [upd]
        · simp [upd]
      have t1 : Two w0 w1 be eb _ own := two.other f1 fun b hb => by cases hb; exact ⟨ng, _, _, gotB⟩
      refine enthymemelaw38_ChannelProgress.L33_step _ _ _ _ _ _ _ _ _ _ _ ?_
      unfold enthymemelaw38_ChannelProgress.S34
      refine sel_false (by rw [hxn]; rfl) (next w1 ⟨t1, f1.at many ne, g1, ng, ne⟩ f1)

/-- the packets of one Out -/
theorem l29 (k : Nat) (hk : k < 2) (rnd : Int) (hw : ∀ j, 1 ≤ win j ∧ win j ≤ 16) (hM : ∀ j, M j ≤ 100) (p : Sl) (l : List Pk) (hlen : l.length ≤ 100) (R : Post) :
    ∀ (rest : List Pk) (i : Nat), l.drop i = rest → ∀ (w : World) (a d : Nat → Nat) (ow : Nat → Bool) (own : Nat → List Nat), Inv w0 w be bm bg eb win M a d ow own → Pkts w p l → d (1 - k) ≤ 100 →
      Good (M (1 - k)) 100 rest ⟨a (1 - k), d (1 - k), ow (1 - k)⟩ →
      (∀ w' own', Inv w0 w' be bm bg eb win M (upd a (1 - k) (rest.foldl (fun s p => recv p s) ⟨a (1 - k), d (1 - k), ow (1 - k)⟩).a) (upd d (1 - k) (rest.foldl (fun s p => recv p s) ⟨a (1 - k), d (1 - k), ow (1 - k)⟩).d) (upd ow (1 - k) (rest.foldl (fun s p => recv p s) ⟨a (1 - k), d (1 - k), ow (1 - k)⟩).ow) own' →
        enthymemelaw38_ChannelProgress.S40 (sl2 be) (sl2 bm) (sl2 bg) rnd k w' R) →
      enthymemelaw38_ChannelProgress.L29 (sl2 be) (sl2 bm) (sl2 bg) rnd k p (i : Int) w R := by
  have hk1 : 1 - k < 2 := by omega
  have e1k : IntKind.wrap .i64 ((1 : Int) - (k : Int)) = ((1 - k : Nat) : Int) := by rw [IntWalk.i64_in _ (by omega)]; omega
  have upd_id : ∀ {α : Type} (f : Nat → α) (j : Nat), upd f j (f j) = f := fun f j => by funext x; unfold upd; split <;> simp_all
  intro rest
  induction rest with
  | nil =>
    intro i hdrop w a d ow own hI hp hd hG fin
    have hpn := hp.len
    have hle : l.length ≤ i := by
      have := congrArg List.length hdrop
      simp at this
      omega
    refine enthymemelaw38_ChannelProgress.L29_step _ _ _ _ _ _ _ _ _ ?_
    unfold enthymemelaw38_ChannelProgress.S30
    refine sel_false (by rw [hpn]; simp; omega) (fin w own ?_)
    simp only [List.foldl_nil, upd_id]
    exact hI
  | cons pk rest ih =>
    intro i hdrop w a d ow own hI hp hd hG fin
    have hpn := hp.len
    have hi : l[i]? = some pk := by
      have := congrArg (fun l => l[0]?) hdrop
      simpa using this
    have hlt : i < l.length := (List.getElem?_eq_some_iff.1 hi).1
    have hdrop' : l.drop (i + 1) = rest := by
      have := congrArg (List.drop 1) hdrop
      simpa [List.drop_drop] using this
    obtain ⟨hok, ha, hB, hG'⟩ := hG
    refine enthymemelaw38_ChannelProgress.L29_step _ _ _ _ _ _ _ _ _ ?_
    unfold enthymemelaw38_ChannelProgress.S30 enthymemelaw38_ChannelProgress.S31
    rw [e1k]
    have fd : Fr0 w w.drew := Fr.drew _ _
    have hId := hI.fr0 fd
    refine sel_true (by rw [hpn]; simp; omega) ⟨by omega, by simp; omega, ?_⟩
    show W.optP (some (at0 be)) _
    refine ⟨_, hId.two.ptr hk1 (by simp), by omega, by rw [hpn]; omega, ?_⟩
    have hpd : Pkts w.drew p l := hp.fr fd (fun _ h => h.elim) fun _ h => h.elim
    refine hpd.at hi (by simp) fun pa sb hb g0 g1 g2 => ⟨_, _, sb, g0, g1, g2, ?_⟩
    have hrep := hId.two.rep (1 - k) hk1
    refine (in_any hrep (S_ok _ _ _ _ _ (hw _).1 (hw _).2 (by have := hM (1 - k); omega) (by omega)) (by simp only [S]; simp; omega) (by simp [S]) hb).mono ?_
    rintro r w1 ⟨x, o1, rfl, hx, r1, f1, oo1, nx⟩
    refine ⟨x, rfl, ?_⟩
    rw [in_pk _ _ pk ⟨a (1 - k), d (1 - k), ow (1 - k)⟩ hok ha] at hx r1
    have hdd := recv_d _ pk ⟨a (1 - k), d (1 - k), ow (1 - k)⟩ hok
    simp only at hdd hx
    have t1 := hId.two.step hk1 r1 f1 oo1
    have nm : bm ∉ own (1 - k) := hId.two.not_own hk1 hId.many (by decide) (by decide)
    have ngt : bg ∉ own (1 - k) := hId.two.not_own hk1 hId.got (by decide) (by decide)
    unfold enthymemelaw38_ChannelProgress.S32
    refine l33 (eb := eb) (win := win) k hk rnd p (i : Int) x (got pk ⟨a (1 - k), d (1 - k), ow (1 - k)⟩) R w1 (upd a (1 - k) (recv pk ⟨a (1 - k), d (1 - k), ow (1 - k)⟩).a) d (upd ow (1 - k) (recv pk ⟨a (1 - k), d (1 - k), ow (1 - k)⟩).ow) (upd own (1 - k) o1) ?_ (f1.at hId.many nm) (f1.at hId.got ngt) hId.ng hId.ne (by omega) ?_ hx ?_
    · refine two_congr t1 (fun j hj => ?_) fun _ _ => rfl
      by_cases e : j = 1 - k
      · subst e; simp only [upd_same]; rw [hdd]
      · simp only [upd_ne _ _ e]
    · unfold got; split
      · exact .inr rfl
      · exact .inl rfl
    · intro w2 hI2 f2
      unfold enthymemelaw38_ChannelProgress.S39
      rw [show IntKind.wrap .i64 ((i : Int) + 1) = ((i + 1 : Nat) : Int) from by rw [IntWalk.i64_in _ (by omega)]; omega]
      have hp2 : Pkts w2 p l := by
        refine (hpd.end hrep f1).fr f2 (fun b hb cs f hc => ?_) (fun b hb cs f hc => ?_)
        · rw [hb, f1.at hId.got ngt] at hc
          injection hc with hc
          injection hc with _ ht _
          exact absurd ht (by decide)
        · rw [hb, f1.at hId.got ngt] at hc
          injection hc with hc
          injection hc with _ ht _
          exact absurd ht (by decide)
      have hupd : ∀ {α : Type} (f : Nat → α) (x y : α), upd (upd f (1 - k) x) (1 - k) y = upd f (1 - k) y := fun f x y => by funext z; unfold upd; split <;> rfl
      refine ih (i + 1) hdrop' w2 _ _ _ _ hI2 hp2 (by rw [upd_same, ← hdd]; exact hB) (by simp only [upd_same]; rw [← hdd]; exact hG') fun w' own' hI' => ?_
      simp only [upd_same, hupd, ← hdd] at hI'
      exact fin w' own' hI'

def NI (M a d : Nat → Nat) : Prop := ∀ j, j < 2 → a j ≤ d (1 - j) ∧ d (1 - j) ≤ M j
/-- one direction -/
def stepA (win : Nat → Int) (M : Nat → Nat) (k : Nat) (a d : Nat → Nat) (ow : Nat → Bool) : Nat → Nat := upd a (1 - k) (if outN' (win k) (M k) (a k) = 0 ∧ ow k = false then a (1 - k) else max (a (1 - k)) (d k))
def stepD (win : Nat → Int) (M : Nat → Nat) (k : Nat) (a d : Nat → Nat) : Nat → Nat := upd d (1 - k) (max (d (1 - k)) (a k + outN' (win k) (M k) (a k)))
def stepO (win : Nat → Int) (M : Nat → Nat) (k : Nat) (a : Nat → Nat) (ow : Nat → Bool) : Nat → Bool := upd (upd ow k false) (1 - k) (if outN' (win k) (M k) (a k) = 0 then ow (1 - k) else true)

theorem dir (k : Nat) (hk : k < 2) (rnd : Int) (hw : ∀ j, 1 ≤ win j ∧ win j ≤ 16) (hM : ∀ j, M j ≤ 100) (R : Post) (w : World) (a d : Nat → Nat) (ow : Nat → Bool) (own : Nat → List Nat) (hI : Inv w0 w be bm bg eb win M a d ow own) (ni : NI M a d)
    (next : ∀ w' own', Inv w0 w' be bm bg eb win M (stepA win M k a d ow) (stepD win M k a d) (stepO win M k a ow) own' → enthymemelaw38_ChannelProgress.S40 (sl2 be) (sl2 bm) (sl2 bg) rnd k w' R) :
    enthymemelaw38_ChannelProgress.S27 (sl2 be) (sl2 bm) (sl2 bg) rnd k w R := by
  have hk1 : 1 - k < 2 := by omega
  have hkk : 1 - (1 - k) = k := by omega
  have n1 := ni k hk
  have n2 := ni (1 - k) hk1
  rw [hkk] at n2
  have hMk := hM k
  have hMk1 := hM (1 - k)
  have hak : a k ≤ M k := by omega
  unfold enthymemelaw38_ChannelProgress.S27
  refine ⟨by omega, by simp; omega, ?_⟩
  show W.optP (some (at0 be)) _
  refine ⟨_, hI.two.ptr hk (by simp), ?_⟩
  refine (out_any (hI.two.rep k hk) (S_ok _ _ _ _ _ (hw k).1 (hw k).2 (by omega) (by omega))).mono ?_
  rintro r w1 ⟨p, rfl, hp, r1, f1, _⟩
  refine ⟨p, rfl, ?_⟩
  rw [S_out _ _ _ _ _ hak] at hp
  have t1 := hI.two.step hk r1 f1 fun x hx => .inl hx
  have hI1 : Inv w0 w1 be bm bg eb win M a d (upd ow k false) own := by
    refine ⟨two_congr t1 (fun j hj => ?_) (fun j hj => ?_), f1.at hI.many (hI.two.not_own hk hI.many (by decide) (by decide)), f1.at hI.got (hI.two.not_own hk hI.got (by decide) (by decide)), hI.ng, hI.ne⟩
    · by_cases e : j = k
      · subst e; simp only [upd_same]; rfl
      · simp only [upd_ne _ _ e]
    · by_cases e : j = k
      · subst e; rw [upd_same]
      · rw [upd_ne _ _ e]
  have hne : 1 - k ≠ k := by omega
  have eow : upd ow k false (1 - k) = ow (1 - k) := upd_ne _ _ hne
  unfold enthymemelaw38_ChannelProgress.S28
  have hN : outN' (win k) (M k) (a k) ≤ 16 := by unfold outN'; have := (hw k).2; omega
  have hNM : a k + outN' (win k) (M k) (a k) ≤ M k := by unfold outN'; omega
  by_cases hz : outN' (win k) (M k) (a k) = 0 ∧ ow k = true
  · rw [if_pos hz] at hp
    refine l29 k hk rnd hw hM p _ (by simp) R _ 0 rfl w1 a d _ own hI1 hp (by omega) ⟨⟨by simp, by simpa using n2.2, .inl ⟨rfl, rfl⟩⟩, by simp only; omega, by simp [recv]; omega, trivial⟩ fun w' own' hI' => next w' own' ?_
    simp only [eow] at hI'
    unfold stepA stepD stepO
    rw [if_neg (by rw [hz.2]; simp), if_pos hz.1, hz.1, Nat.add_zero, show max (d (1 - k)) (a k) = d (1 - k) by omega]
    exact hI'
  · rw [if_neg hz] at hp
    refine l29 k hk rnd hw hM p _ (by simp; omega) R _ 0 rfl w1 a d _ own hI1 hp (by omega) (good_range _ _ _ _ _ (by simp only; omega) (by omega) (by simp only; omega) (by simp only; omega) _ (by omega)) fun w' own' hI' => next w' own' ?_
    rw [List.drop_zero, recv_range _ _ _ (by simp only; omega)] at hI'
    simp only [eow] at hI'
    unfold stepA stepD stepO
    by_cases hz0 : outN' (win k) (M k) (a k) = 0
    · have ho : ow k = false := by
        cases h : ow k
        · rfl
        · exact absurd ⟨hz0, h⟩ hz
      rw [if_pos ⟨hz0, ho⟩, if_pos hz0]
      rw [if_pos hz0, if_pos hz0] at hI'
      exact hI'
    · rw [if_neg (fun h => hz0 h.1), if_neg hz0]
      rw [if_neg hz0, if_neg hz0] at hI'
      exact hI'

/-- what is known after r rounds -/
structure J (M a d : Nat → Nat) (ow : Nat → Bool) (r : Nat) : Prop where
  ni : NI M a d
  a0 : min (M 0) r ≤ a 0
  d0 : min (M 1) r ≤ d 0
  a1 : min (M 1) (r - 1) ≤ a 1
  o0 : a 1 < d 0 → ow 0 = true ∨ a 0 < M 0
theorem outN'_pos {win : Int} {M a : Nat} (h1 : 1 ≤ win) : (outN' win M a = 0 ↔ M ≤ a) ∧ (a ≤ M → a + outN' win M a ≤ M) := by
  unfold outN'
  constructor
  · omega
  · omega
theorem J.next {a d : Nat → Nat} {ow : Nat → Bool} {r : Nat} (hw : ∀ j, 1 ≤ win j ∧ win j ≤ 16) (h : J M a d ow r) :
    NI M (stepA win M 0 a d ow) (stepD win M 0 a d) ∧ J M (stepA win M 1 (stepA win M 0 a d ow) (stepD win M 0 a d) (stepO win M 0 a ow)) (stepD win M 1 (stepA win M 0 a d ow) (stepD win M 0 a d)) (stepO win M 1 (stepA win M 0 a d ow) (stepO win M 0 a ow)) (r + 1) := by
  obtain ⟨ni, ha0, hd0, ha1, ho⟩ := h
  have i0 := ni 0 (by omega)
  have i1 := ni 1 (by omega)
  simp only [Nat.sub_zero, Nat.sub_self] at i0 i1
  have p0 := outN'_pos (win := win 0) (M := M 0) (a := a 0) (hw 0).1
  -- the values
  have A1 : (stepA win M 0 a d ow) 1 = d 0 := by
    unfold stepA
    simp only [Nat.sub_zero, upd_same]
    split
    · rename_i hz
      have := p0.1.1 hz.1
      by_cases hlt : a 1 < d 0
      · rcases ho hlt with h1 | h1
        · rw [hz.2] at h1; cases h1
        · omega
      · omega
    · omega
  have A0 : (stepA win M 0 a d ow) 0 = a 0 := by unfold stepA; exact upd_ne _ _ (by decide)
  have D0 : (stepD win M 0 a d) 0 = d 0 := by unfold stepD; exact upd_ne _ _ (by decide)
  have D1 : (stepD win M 0 a d) 1 = max (d 1) (a 0 + outN' (win 0) (M 0) (a 0)) := by unfold stepD; simp only [Nat.sub_zero, upd_same]
  have O0 : (stepO win M 0 a ow) 0 = false := by unfold stepO; rw [upd_ne _ _ (by decide), upd_same]
  have O1 : (stepO win M 0 a ow) 1 = if outN' (win 0) (M 0) (a 0) = 0 then ow 1 else true := by unfold stepO; simp only [Nat.sub_zero, upd_same]
  generalize stepA win M 0 a d ow = a' at *
  generalize stepD win M 0 a d = d' at *
  generalize stepO win M 0 a ow = ow' at *
  generalize hn0 : outN' (win 0) (M 0) (a 0) = n0 at *
  have p1 := outN'_pos (win := win 1) (M := M 1) (a := a' 1) (hw 1).1
  have q0 : n0 = 0 ∨ 1 ≤ n0 := by omega
  have ni' : NI M a' d' := by
    intro j hj
    match j, hj with
    | 0, _ => simp only [Nat.sub_zero]; rw [A0, D1]; omega
    | 1, _ => simp only [Nat.sub_self]; rw [A1, D0]; omega
  refine ⟨ni', ?_⟩
  have B0 : (stepA win M 1 a' d' ow') 0 = d' 1 := by
    unfold stepA
    simp only [Nat.sub_self, upd_same]
    split
    · rename_i hz
      rw [O1] at hz
      rcases q0 with h | h
      · rw [A0, D1]; omega
      · rw [if_neg (by omega)] at hz; cases hz.2
    · rw [A0, D1]; omega
  have B1 : (stepA win M 1 a' d' ow') 1 = d 0 := by unfold stepA; rw [upd_ne _ _ (by decide), A1]
  have E1 : (stepD win M 1 a' d') 1 = d' 1 := by unfold stepD; exact upd_ne _ _ (by decide)
  have E0 : (stepD win M 1 a' d') 0 = max (d' 0) (a' 1 + outN' (win 1) (M 1) (a' 1)) := by unfold stepD; simp only [Nat.sub_self, upd_same]
  have P0 : (stepO win M 1 a' ow') 0 = if outN' (win 1) (M 1) (a' 1) = 0 then ow' 0 else true := by unfold stepO; simp only [Nat.sub_self, upd_same]
  generalize stepA win M 1 a' d' ow' = a'' at *
  generalize stepD win M 1 a' d' = d'' at *
  generalize stepO win M 1 a' ow' = ow'' at *
  generalize hn1 : outN' (win 1) (M 1) (a' 1) = n1 at *
  have q1 : n1 = 0 ∨ 1 ≤ n1 := by omega
  refine ⟨fun j hj => ?_, ?_, ?_, ?_, ?_⟩
  · match j, hj with
    | 0, _ => simp only [Nat.sub_zero]; rw [B0, E1]; rw [D1]; omega
    | 1, _ => simp only [Nat.sub_self]; rw [B1, E0, D0, A1]; rw [A1] at p1; omega
  · rw [B0, D1]; omega
  · rw [E0, D0, A1]; rw [A1] at p1; omega
  · rw [B1]; omega
  · rw [B1, E0, D0, A1, P0]
    intro hlt
    left
    rw [A1] at p1
    rcases q1 with h | h
    · omega
    · rw [if_neg (by omega)]

/-- the end -/
theorem s42 (w : World) (a d : Nat → Nat) (ow : Nat → Bool) (own : Nat → List Nat) (hI : Inv w0 w be bm bg eb win M a d ow own) (h : a 0 = M 0 ∧ a 1 = M 1 ∧ d 0 = M 1 ∧ d 1 = M 0) :
    enthymemelaw38_ChannelProgress.S42 (sl2 be) (sl2 bm) (sl2 bg) w (Fin w0) := by
  obtain ⟨h1, h2, h3, h4⟩ := h
  have fd : Fr0 w w.drew := Fr.drew _ _
  have hId := hI.fr0 fd
  have m0 := cell2 hId.many (k := 0) (j := 0 * 1) (by omega) rfl
  have m1 := cell2 hId.many (k := 1) (j := 1 * 1) (by omega) rfl
  have g0 := cell2 hId.got (k := 0) (j := 0 * 1) (by omega) rfl
  have g1 := cell2 hId.got (k := 1) (j := 1 * 1) (by omega) rfl
  unfold enthymemelaw38_ChannelProgress.S42
  refine ⟨by omega, by simp, ?_⟩
  show W.optP (some (at0 bg)) _
  refine ⟨_, g0, by omega, by simp, ?_⟩
  show W.optP (some (at0 bm)) _
  refine ⟨_, m1, sel_true (by simp [h3]) ⟨by omega, by simp, ?_⟩⟩
  show W.optP (some (at0 bg)) _
  refine ⟨_, g1, by omega, by simp, ?_⟩
  show W.optP (some (at0 bm)) _
  refine ⟨_, m0, sel_true (by simp [h4]) ⟨by omega, by simp, ?_⟩⟩
  show W.optP (some (at0 be)) _
  refine ⟨_, hId.two.ptr (k := 0) (by omega) rfl, (waiting_any (hId.two.rep 0 (by omega))).mono ?_⟩
  rintro r w1 ⟨rfl, rfl⟩
  refine ⟨_, rfl, m0, g1, m1, g0, sel_true (by rw [S_len, h1]; simp) ⟨by omega, by simp, ?_⟩⟩
  show W.optP (some (at0 be)) _
  refine ⟨_, hId.two.ptr (k := 1) (by omega) rfl, (waiting_any (hId.two.rep 1 (by omega))).mono ?_⟩
  rintro r w1 ⟨rfl, rfl⟩
  refine ⟨_, rfl, m0, g1, m1, g0, sel_true (by rw [S_len, h2]; simp) ((lives_any w.drew).mono ?_)⟩
  rintro r w2 ⟨rfl, f2⟩
  have hI2 := hId.fr0 f2
  exact ⟨_, rfl, cell2 hI2.many (k := 0) (j := 0 * 1) (by omega) rfl, cell2 hI2.got (k := 1) (j := 1 * 1) (by omega) rfl, cell2 hI2.many (k := 1) (j := 1 * 1) (by omega) rfl, cell2 hI2.got (k := 0) (j := 0 * 1) (by omega) rfl, rfl, hI2.two.fr⟩

/-- the rounds -/
theorem l22 (hw : ∀ j, 1 ≤ win j ∧ win j ≤ 16) (hM : ∀ j, M j ≤ 100) : ∀ (n r : Nat), r + n = max (M 0) (M 1) + 1 → ∀ (w : World) (a d : Nat → Nat) (ow : Nat → Bool) (own : Nat → List Nat), Inv w0 w be bm bg eb win M a d ow own → J M a d ow r →
    enthymemelaw38_ChannelProgress.L22 (sl2 be) (sl2 bm) (sl2 bg) (r : Int) w (Fin w0) := by
  have hM0 := hM 0
  have hM1 := hM 1
  intro n
  induction n with
  | zero =>
    intro r hr w a d ow own hI hJ
    have fd : Fr0 w w.drew := Fr.drew _ _
    have hId := hI.fr0 fd
    refine enthymemelaw38_ChannelProgress.L22_step _ _ _ _ _ _ ?_
    unfold enthymemelaw38_ChannelProgress.S23
    refine ⟨by omega, by simp, ?_⟩
    show W.optP (some (at0 bm)) _
    refine ⟨_, cell2 hId.many (k := 0) (by omega) rfl, by omega, by simp, ?_⟩
    show W.optP (some (at0 bm)) _
    refine ⟨_, cell2 hId.many (k := 1) (by omega) rfl, sel_false ?_ (s42 w.drew a d ow own hId ?_)⟩
    · simp only [if_true, show ¬ (1 : Nat) = 0 by decide, if_false]
      simp
      split <;> omega
    · have i0 := hJ.ni 0 (by omega)
      have i1 := hJ.ni 1 (by omega)
      simp only [Nat.sub_zero, Nat.sub_self] at i0 i1
      have := hJ.a0
      have := hJ.d0
      have := hJ.a1
      omega
  | succ n ih =>
    intro r hr w a d ow own hI hJ
    have fd : Fr0 w w.drew := Fr.drew _ _
    have hId := hI.fr0 fd
    refine enthymemelaw38_ChannelProgress.L22_step _ _ _ _ _ _ ?_
    unfold enthymemelaw38_ChannelProgress.S23
    refine ⟨by omega, by simp, ?_⟩
    show W.optP (some (at0 bm)) _
    refine ⟨_, cell2 hId.many (k := 0) (by omega) rfl, by omega, by simp, ?_⟩
    show W.optP (some (at0 bm)) _
    refine ⟨_, cell2 hId.many (k := 1) (by omega) rfl, sel_true ?_ ?_⟩
    · simp only [if_true, show ¬ (1 : Nat) = 0 by decide, if_false]
      simp
      split <;> omega
    · have hnext := hJ.next hw
      unfold enthymemelaw38_ChannelProgress.S24
      refine enthymemelaw38_ChannelProgress.L25_step _ _ _ _ _ _ _ ?_
      unfold enthymemelaw38_ChannelProgress.S26
      refine sel_true (by decide) (dir 0 (by omega) (r : Int) hw hM _ w.drew a d ow own hId hJ.ni fun w1 own1 hI1 => ?_)
      unfold enthymemelaw38_ChannelProgress.S40
      rw [show IntKind.wrap .i64 (((0 : Nat) : Int) + 1) = ((1 : Nat) : Int) from by decide]
      refine enthymemelaw38_ChannelProgress.L25_step _ _ _ _ _ _ _ ?_
      unfold enthymemelaw38_ChannelProgress.S26
      refine sel_true (by decide) (dir 1 (by omega) (r : Int) hw hM _ w1 _ _ _ own1 hI1 hnext.1 fun w2 own2 hI2 => ?_)
      unfold enthymemelaw38_ChannelProgress.S40
      rw [show IntKind.wrap .i64 (((1 : Nat) : Int) + 1) = ((2 : Nat) : Int) from by decide]
      refine enthymemelaw38_ChannelProgress.L25_step _ _ _ _ _ _ _ ?_
      unfold enthymemelaw38_ChannelProgress.S26 enthymemelaw38_ChannelProgress.S41
      refine sel_false (by decide) ?_
      rw [show IntKind.wrap .i64 ((r : Int) + 1) = ((r + 1 : Nat) : Int) from by rw [IntWalk.i64_in _ (by omega)]; omega]
      exact ih (r + 1) (by omega) w2 _ _ _ own2 hI2 hnext.2

/-- before the rounds: the ends after some messages -/
structure Pre (w0 w : World) (be bm : Nat) (eb : Nat → Nat) (win : Nat → Int) (M m : Nat → Nat) (own : Nat → List Nat) : Prop where
  two : Two w0 w be eb (fun k => S (win k) (m k) 0 0 false) own
  many : w.heap[bm]? = some (.cells #[.int .i64 (M 0), .int .i64 (M 1)] ty_int (0, 0))

/-- lost packets -/
theorem l16 (hw : ∀ j, 1 ≤ win j ∧ win j ≤ 16) (hM : ∀ j, M j ≤ 100) (lost : Int) (hl1 : -9223372036854775808 ≤ lost) (hl2 : lost ≤ 9223372036854775807) : ∀ (n i : Nat), (i : Int) + n = aroundI lost 5 → ∀ (w : World) (own : Nat → List Nat), Pre w0 w be bm eb win M M own →
    enthymemelaw38_ChannelProgress.L16 lost (sl2 be) (sl2 bm) (i : Int) w (Fin w0) := by
  have hr := aroundI_range lost 5 (by omega)
  intro n
  induction n with
  | zero =>
    intro i hi w own hP
    refine enthymemelaw38_ChannelProgress.L16_step _ _ _ _ _ _ ?_
    unfold enthymemelaw38_ChannelProgress.S17
    refine (around_any lost 5 w (by omega) hl1 hl2).mono ?_
    rintro r w1 ⟨rfl, rfl⟩
    refine ⟨_, rfl, sel_false (by simp; omega) ?_⟩
    unfold enthymemelaw38_ChannelProgress.S20 enthymemelaw38_ChannelProgress.S21
    intro w1
    have f1 : Fr0 w w1 := Fr.alloc _ _ _
    refine l22 (eb := eb) (win := win) (M := M) hw hM (max (M 0) (M 1) + 1) 0 (by omega) w1 (fun _ => 0) (fun _ => 0) (fun _ => false) own ⟨hP.two.fr0 f1, f1.at hP.many id, heap_new _ _, hP.two.fr.size, Nat.ne_of_lt (lt_of_heap hP.many)⟩ ⟨fun j _ => ⟨Nat.le_refl _, Nat.zero_le _⟩, by omega, by omega, by omega, by simp⟩
  | succ n ih =>
    intro i hi w own hP
    refine enthymemelaw38_ChannelProgress.L16_step _ _ _ _ _ _ ?_
    unfold enthymemelaw38_ChannelProgress.S17
    refine (around_any lost 5 w (by omega) hl1 hl2).mono ?_
    rintro r w1 ⟨rfl, rfl⟩
    refine ⟨_, rfl, sel_true (by simp; omega) ?_⟩
    unfold enthymemelaw38_ChannelProgress.S18 enthymemelaw38_ChannelProgress.S19
    have hm2 : Int.tmod (i : Int) 2 = ((i % 2 : Nat) : Int) := rfl
    have hk : i % 2 < 2 := by omega
    have hMk := hM (i % 2)
    rw [hm2]
    refine ⟨by omega, by simp; omega, ?_⟩
    show W.optP (some (at0 be)) _
    refine ⟨_, hP.two.ptr hk (by rw [Int.toNat_natCast]), (out_any (hP.two.rep _ hk) (S_ok _ _ _ _ _ (hw _).1 (hw _).2 (by omega) (by omega))).mono ?_⟩
    rintro r w1 ⟨p, rfl, _, r1, f1, _⟩
    refine ⟨p, rfl, ?_⟩
    rw [show IntKind.wrap .i64 ((i : Int) + 1) = ((i + 1 : Nat) : Int) from by rw [IntWalk.i64_in _ (by omega)]; omega]
    refine ih (i + 1) (by omega) w1 own ⟨two_congr (hP.two.step hk r1 f1 fun x hx => .inl hx) (fun j hj => ?_) (fun j hj => ?_), f1.at hP.many (hP.two.not_own hk hP.many (by decide) (by decide))⟩
    · by_cases e : j = i % 2
      · rw [e]; simp only [upd_same]; rfl
      · simp only [upd_ne _ _ e]
    · by_cases e : j = i % 2
      · rw [e, upd_same]
      · rw [upd_ne _ _ e]

/-- the messages of one end -/
theorem l9 (hw : ∀ j, 1 ≤ win j ∧ win j ≤ 16) (hM : ∀ j, M j ≤ 100) (lost : Int) (k : Nat) (hk : k < 2) (m : Nat → Nat) (R : Post)
    (next : ∀ w own, Pre w0 w be bm eb win M (upd m k (M k)) own → enthymemelaw38_ChannelProgress.S14 lost (sl2 be) (sl2 bm) k w R) :
    ∀ (n i : Nat), i + n = M k → ∀ (w : World) (own : Nat → List Nat), Pre w0 w be bm eb win M (upd m k i) own → enthymemelaw38_ChannelProgress.L9 lost (sl2 be) (sl2 bm) k (i : Int) w R := by
  have hMk := hM k
  intro n
  induction n with
  | zero =>
    intro i hi w own hP
    obtain rfl : i = M k := by omega
    refine enthymemelaw38_ChannelProgress.L9_step _ _ _ _ _ _ _ ?_
    unfold enthymemelaw38_ChannelProgress.S10
    refine ⟨by omega, by simp; omega, ?_⟩
    show W.optP (some (at0 bm)) _
    refine ⟨_, cell2 hP.many hk (by simp), sel_false (by rw [nat2 hk]; simp) (next w own hP)⟩
  | succ n ih =>
    intro i hi w own hP
    refine enthymemelaw38_ChannelProgress.L9_step _ _ _ _ _ _ _ ?_
    unfold enthymemelaw38_ChannelProgress.S10 enthymemelaw38_ChannelProgress.S11 enthymemelaw38_ChannelProgress.S13
    refine ⟨by omega, by simp; omega, ?_⟩
    show W.optP (some (at0 bm)) _
    refine ⟨_, cell2 hP.many hk (by simp), sel_true (by rw [nat2 hk]; simp; omega) ⟨by omega, by simp; omega, ?_⟩⟩
    show W.optP (some (at0 be)) _
    refine ⟨_, hP.two.ptr hk (by simp), ?_⟩
    intro w1
    have f1 : Fr0 w w1 := Fr.alloc _ _ _
    have ev : IntKind.wrap .u8 (i : Int) = ((UInt8.ofNat i).toNat : Int) := by
      simp [IntKind.wrap, IntKind.bits, IntKind.signed]
    have hB : Bytes w1 ⟨some ⟨w.heap.size, 0, none⟩, 1, 1⟩ (msg i) := by
      refine ⟨rfl, .inr ⟨w.heap.size, 0, _, _, rfl, heap_new _ _, fun j v hj => ?_⟩⟩
      rw [ev]
      simpa [msg, byteV] using hj
    have hr1 := (hP.two.fr0 f1).rep k hk
    have ok : (S (win k) (upd m k i k) 0 0 false).Ok := S_ok _ _ _ _ _ (hw k).1 (hw k).2 (by rw [upd_same]; omega) (by omega)
    refine (send_any hr1 hB ok.s0 ok.s1).mono ?_
    intro r w2 h
    unfold SendPost at h
    rw [if_neg (by rw [S_len, upd_same]; simp [msg]; omega)] at h
    obtain ⟨o2, rfl, r2, f2, oo2⟩ := h
    rw [upd_same, S_send] at r2
    refine ⟨_, rfl, sel_false rfl ?_⟩
    rw [show IntKind.wrap .i64 ((i : Int) + 1) = ((i + 1 : Nat) : Int) from by rw [IntWalk.i64_in _ (by omega)]; omega]
    refine ih (i + 1) (by omega) w2 _ ⟨two_congr ((hP.two.fr0 f1).step hk r2 f2 oo2) (fun j hj => ?_) (fun j hj => rfl), f2.at (f1.at hP.many id) ((hP.two.fr0 f1).not_own hk (f1.at hP.many id) (by decide) (by decide))⟩
    by_cases e : j = k
    · subst e; simp only [upd_same]
    · simp only [upd_ne _ _ e]

theorem walk (window one two lost : Int) (a1 : -9223372036854775808 ≤ window) (a2 : window ≤ 9223372036854775807) (b1 : -9223372036854775808 ≤ one) (b2 : one ≤ 9223372036854775807) (c1 : -9223372036854775808 ≤ two) (c2 : two ≤ 9223372036854775807) (d1 : -9223372036854775808 ≤ lost) (d2 : lost ≤ 9223372036854775807) (w : World) :
    Calls Try.prog n_enthymemelaw38_ChannelProgress #[.int .i64 window, .int .i64 one, .int .i64 two, .int .i64 lost] w (Fin w) := by
  refine enthymemelaw38_ChannelProgress.ok window one two lost w _ ?_
  unfold enthymemelaw38_ChannelProgress.S0 enthymemelaw38_ChannelProgress.S1
  refine (ends_any window w a1 a2).mono ?_
  rintro r w1 ⟨be, eb, own, rfl, hT⟩
  refine ⟨sl2 be, rfl, ?_⟩
  unfold enthymemelaw38_ChannelProgress.S2 enthymemelaw38_ChannelProgress.S4
  refine sel_false rfl ((around_any one 41 w1 (by omega) b1 b2).mono ?_)
  rintro r w2 ⟨rfl, rfl⟩
  refine ⟨_, rfl, (around_any two 41 w1 (by omega) c1 c2).mono ?_⟩
  rintro r w2 ⟨rfl, rfl⟩
  refine ⟨_, rfl, ?_⟩
  have r1 := aroundI_range one 41 (by omega)
  have r2 := aroundI_range two 41 (by omega)
  obtain ⟨n0, hn0⟩ := Int.eq_ofNat_of_zero_le r1.1
  obtain ⟨n1, hn1⟩ := Int.eq_ofNat_of_zero_le r2.1
  rw [hn0] at r1 ⊢
  rw [hn1] at r2 ⊢
  intro w3
  have f3 : Fr0 w1 w3 := Fr.alloc _ _ _
  have hw := fun j => win0_range window j
  let M : Nat → Nat := fun k => if k = 0 then n0 else n1
  have hM : ∀ j, M j ≤ 100 := fun j => by show (if j = 0 then n0 else n1) ≤ 100; split <;> omega
  have hP : Pre w w3 be w1.heap.size eb (win0 window) M (fun _ => 0) own := ⟨two_congr (hT.fr0 f3) (fun j _ => by simp [S]) (fun _ _ => rfl), heap_new _ _⟩
  unfold enthymemelaw38_ChannelProgress.S5
  refine enthymemelaw38_ChannelProgress.L6_step _ _ _ _ _ _ ?_
  unfold enthymemelaw38_ChannelProgress.S7 enthymemelaw38_ChannelProgress.S8
  refine sel_true (by decide) (l9 (eb := eb) (win := win0 window) (M := M) hw hM lost 0 (by omega) (fun _ => 0) _ (fun w4 own4 hP4 => ?_) (M 0) 0 (by omega) w3 own ⟨two_congr hP.two (fun j _ => by unfold upd; split <;> rfl) (fun _ _ => rfl), hP.many⟩)
  unfold enthymemelaw38_ChannelProgress.S14
  rw [show IntKind.wrap .i64 (((0 : Nat) : Int) + 1) = ((1 : Nat) : Int) from by decide]
  refine enthymemelaw38_ChannelProgress.L6_step _ _ _ _ _ _ ?_
  unfold enthymemelaw38_ChannelProgress.S7 enthymemelaw38_ChannelProgress.S8
  refine sel_true (by decide) (l9 (eb := eb) (win := win0 window) (M := M) hw hM lost 1 (by omega) (upd (fun _ => 0) 0 (M 0)) _ (fun w5 own5 hP5 => ?_) (M 1) 0 (by omega) w4 own4 ⟨two_congr hP4.two (fun j hj => ?_) (fun _ _ => rfl), hP4.many⟩)
  · unfold enthymemelaw38_ChannelProgress.S14
    rw [show IntKind.wrap .i64 (((1 : Nat) : Int) + 1) = ((2 : Nat) : Int) from by decide]
    refine enthymemelaw38_ChannelProgress.L6_step _ _ _ _ _ _ ?_
    unfold enthymemelaw38_ChannelProgress.S7 enthymemelaw38_ChannelProgress.S15
    refine sel_false (by decide) ?_
    have hr := aroundI_range lost 5 (by omega)
    obtain ⟨n, hn⟩ := Int.eq_ofNat_of_zero_le hr.1
    refine l16 (eb := eb) (win := win0 window) (M := M) hw hM lost d1 d2 n 0 (by omega) w5 own5 ⟨two_congr hP5.two (fun j hj => ?_) (fun _ _ => rfl), hP5.many⟩
    match j, hj with
    | 0, _ => rfl
    | 1, _ => rfl
  · match j, hj with
    | 0, _ => rfl
    | 1, _ => rfl
end
end Pro
end Go.Proofs.Ytellmncndfmbbaa
