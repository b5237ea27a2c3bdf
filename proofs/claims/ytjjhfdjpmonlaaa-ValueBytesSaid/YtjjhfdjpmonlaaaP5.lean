/- Plain laws: encodings of values, and the order. No program in sight. -/
import Derived.Test.YtjjhfdjpmonlaaaP4
import Derived.Test.YtjjhfdjpmonlaaaWB
import Derived.Test.YtjjhfdjpmonlaaaRE
namespace Go.Proofs.Ytjjhfdjpmonlaaa
open Go Go.W

def encE (e : Ent) : List UInt8 := encU e.i ++ encU e.u ++ encR e.s
def encH (v : Val) : List UInt8 := encI v.t.k ++ encI v.t.n ++ encI v.t.x ++ encU v.u ++ encR v.s ++ encI (v.m.length : Int)
def encV (v : Val) : List UInt8 := encH v ++ v.m.flatMap encE
structure Wf (v : Val) : Prop where
  k : I64 v.t.k
  n : I64 v.t.n
  x : I64 v.t.x
  u : v.u < 18446744073709551616
  s : v.s.length ≤ 1000000
  m : v.m.length ≤ 1000000
  e : ∀ e ∈ v.m, e.i < 18446744073709551616 ∧ e.u < 18446744073709551616 ∧ e.s.length ≤ 100000
theorem Ro.wf {c : Nat} {v : Val} (h : Ro c v) (hc : c ≤ 100000) : Wf v := ⟨h.k, h.n, h.x, h.u, by have := h.s; omega, by have := h.m; omega, fun e he => ⟨(h.e e he).1, (h.e e he).2.1, Nat.le_trans (h.e e he).2.2 hc⟩⟩
def rdE (st : RS) : Ent × RS := (⟨(rdU st).1, (rdU (rdU st).2).1, (rdRaw (rdU (rdU st).2).2).1⟩, (rdRaw (rdU (rdU st).2).2).2)
def rdEs : Nat → RS → List Ent × RS
  | 0, st => ([], st)
  | n + 1, st => ((rdE st).1 :: (rdEs n (rdE st).2).1, (rdEs n (rdE st).2).2)
theorem rdE_enc (e : Ent) (h : e.i < 18446744073709551616 ∧ e.u < 18446744073709551616 ∧ e.s.length ≤ 100000) (r : List UInt8) : rdE ⟨encE e ++ r, 0⟩ = (e, ⟨r, 0⟩) := by
  unfold rdE encE
  rw [List.append_assoc, List.append_assoc, rdU_enc _ h.1, rdU_enc _ h.2.1, rdRaw_enc _ (by omega)]
theorem rdEs_enc : ∀ (m : List Ent) (r : List UInt8), (∀ e ∈ m, e.i < 18446744073709551616 ∧ e.u < 18446744073709551616 ∧ e.s.length ≤ 100000) → rdEs m.length ⟨m.flatMap encE ++ r, 0⟩ = (m, ⟨r, 0⟩)
  | [], r, _ => rfl
  | e :: m, r, h => by
    show ((rdE _).1 :: (rdEs m.length (rdE _).2).1, (rdEs m.length (rdE _).2).2) = _
    rw [List.flatMap_cons, List.append_assoc, rdE_enc e (h e (by simp))]
    simp only
    rw [rdEs_enc m r fun e he => h e (by simp [he])]
theorem rdE_back {st : RS} (h : (rdE st).2.err = 0) : st.err = 0 ∧ st.bs = encE (rdE st).1 ++ (rdE st).2.bs := by
  have h3 := rdRaw_back (st := (rdU (rdU st).2).2) h
  have h2 := rdU_back h3.1
  have h1 := rdU_back h2.1
  refine ⟨h1.1, ?_⟩
  rw [h1.2, h2.2, h3.2]
  simp [rdE, encE]
theorem rdEs_back : ∀ (n : Nat) (st : RS), (rdEs n st).2.err = 0 → st.err = 0 ∧ st.bs = (rdEs n st).1.flatMap encE ++ (rdEs n st).2.bs ∧ (rdEs n st).1.length = n
  | 0, st, h => ⟨h, by simp [rdEs], rfl⟩
  | n + 1, st, h => by
    obtain ⟨h1, h2, h3⟩ := rdEs_back n (rdE st).2 h
    obtain ⟨h4, h5⟩ := rdE_back h1
    refine ⟨h4, ?_, ?_⟩
    · rw [h5, h2]
      simp [rdEs]
    · show (rdEs n (rdE st).2).1.length + 1 = _
      rw [h3]
theorem rdEs_u : ∀ (n : Nat) (st : RS), ∀ e ∈ (rdEs n st).1, e.i < 18446744073709551616 ∧ e.u < 18446744073709551616
  | 0, st => fun e he => by cases he
  | n + 1, st => fun e he => by
    rcases List.mem_cons.1 (show e ∈ (rdE st).1 :: (rdEs n (rdE st).2).1 from he) with rfl | he
    · exact ⟨rdU_lt _, rdU_lt _⟩
    · exact rdEs_u n _ e he
theorem rdI_range (st : RS) : I64 (rdI st).1 := unzz_range _ (rdU_lt st)
/-- the value with an encoding -/
def rdV (bs : List UInt8) (k n x c : Int) (u : Nat) (s : List UInt8) (st : RS) : Int × Val :=
  if c < 0 ∨ (bs.length : Int) < c then (2, noVal) else
  if rdEnd (rdEs c.toNat st).2 ≠ 0 then (2, noVal) else
  if validV ⟨⟨k, n, x⟩, u, s, (rdEs c.toNat st).1⟩ ≠ 0 then (2, noVal) else (0, ⟨⟨k, n, x⟩, u, s, (rdEs c.toNat st).1⟩)
def rd1 (bs : List UInt8) : Int × RS := rdI ⟨bs, 0⟩
def rd2 (bs : List UInt8) : Int × RS := rdI (rd1 bs).2
def rd3 (bs : List UInt8) : Int × RS := rdI (rd2 bs).2
def rd4 (bs : List UInt8) : Nat × RS := rdU (rd3 bs).2
def rd5 (bs : List UInt8) : List UInt8 × RS := rdRaw (rd4 bs).2
def rd6 (bs : List UInt8) : Int × RS := rdI (rd5 bs).2
def decV (bs : List UInt8) : Int × Val := rdV bs (rd1 bs).1 (rd2 bs).1 (rd3 bs).1 (rd6 bs).1 (rd4 bs).1 (rd5 bs).1 (rd6 bs).2
theorem encE_pos (e : Ent) : 1 ≤ (encE e).length := by
  have := encU_pos e.i
  unfold encE
  simp only [List.length_append]
  omega
theorem ents_ge : ∀ m : List Ent, m.length ≤ (m.flatMap encE).length
  | [] => by simp
  | e :: m => by
    have := encE_pos e
    have := ents_ge m
    simp only [List.flatMap_cons, List.length_append, List.length_cons]
    omega
theorem decV_any {v : Val} (h : Wf v) : decV (encV v) = if validV v ≠ 0 then (2, noVal) else (0, v) := by
  have e1 : rd1 (encV v) = (v.t.k, ⟨encI v.t.n ++ (encI v.t.x ++ (encU v.u ++ (encR v.s ++ (encI (v.m.length : Int) ++ (v.m.flatMap encE ++ []))))), 0⟩) := by
    unfold rd1 encV encH
    simp only [List.append_assoc, List.append_nil]
    rw [rdI_enc _ h.k]
  have e2 : rd2 (encV v) = (v.t.n, ⟨encI v.t.x ++ (encU v.u ++ (encR v.s ++ (encI (v.m.length : Int) ++ (v.m.flatMap encE ++ [])))), 0⟩) := by
    unfold rd2; rw [e1, rdI_enc _ h.n]
  have e3 : rd3 (encV v) = (v.t.x, ⟨encU v.u ++ (encR v.s ++ (encI (v.m.length : Int) ++ (v.m.flatMap encE ++ []))), 0⟩) := by
    unfold rd3; rw [e2, rdI_enc _ h.x]
  have e4 : rd4 (encV v) = (v.u, ⟨encR v.s ++ (encI (v.m.length : Int) ++ (v.m.flatMap encE ++ [])), 0⟩) := by
    unfold rd4; rw [e3, rdU_enc _ h.u]
  have hs := h.s
  have hm := h.m
  have e5 : rd5 (encV v) = (v.s, ⟨encI (v.m.length : Int) ++ (v.m.flatMap encE ++ []), 0⟩) := by
    unfold rd5; rw [e4, rdRaw_enc _ (by omega)]
  have e6 : rd6 (encV v) = ((v.m.length : Int), ⟨v.m.flatMap encE ++ [], 0⟩) := by
    unfold rd6; rw [e5, rdI_enc _ (by constructor <;> omega)]
  have ge := ents_ge v.m
  have hl : v.m.length ≤ (encV v).length := by
    unfold encV
    rw [List.length_append]
    omega
  unfold decV rdV
  rw [e1, e2, e3, e4, e5, e6]
  simp only [Int.toNat_natCast]
  rw [if_neg (by omega), rdEs_enc v.m [] h.e]
  simp only
  rw [if_neg (by simp [rdEnd])]
theorem decV_enc {v : Val} (h : Wf v) (hv : validV v = 0) : decV (encV v) = (0, v) := by
  rw [decV_any h, if_neg (by simpa using hv)]
theorem decV_back {bs : List UInt8} (hl : bs.length ≤ 100000) (h : (decV bs).1 = 0) : encV (decV bs).2 = bs ∧ validV (decV bs).2 = 0 ∧ Wf (decV bs).2 := by
  unfold decV rdV at h ⊢
  split at h
  · cases h
  · rename_i hc
    rw [if_neg hc]
    split at h
    · cases h
    · rename_i he
      rw [if_neg he]
      split at h
      · cases h
      · rename_i hv
        rw [if_neg hv]
        have hend : (rdEs (rd6 bs).1.toNat (rd6 bs).2).2.err = 0 ∧ (rdEs (rd6 bs).1.toNat (rd6 bs).2).2.bs = [] := by
          unfold rdEnd at he
          split at he
          · rename_i hh; exact absurd he (by simpa using hh)
          · rename_i hh
            split at he
            · exact absurd he (by simp)
            · rename_i hz
              exact ⟨by simpa using hh, List.length_eq_zero_iff.1 (by omega)⟩
        obtain ⟨g6, b6, l6⟩ := rdEs_back _ _ hend.1
        obtain ⟨g5, b5⟩ := rdI_back (st := (rd5 bs).2) g6
        obtain ⟨g4, b4⟩ := rdRaw_back (st := (rd4 bs).2) g5
        obtain ⟨g3, b3⟩ := rdU_back (st := (rd3 bs).2) g4
        obtain ⟨g2, b2⟩ := rdI_back (st := (rd2 bs).2) g3
        obtain ⟨g1, b1⟩ := rdI_back (st := (rd1 bs).2) g2
        obtain ⟨_, b0⟩ := rdI_back (st := ⟨bs, 0⟩) g1
        have hlen : ((rdEs (rd6 bs).1.toNat (rd6 bs).2).1.length : Int) = (rd6 bs).1 := by rw [l6]; omega
        have key : encV ⟨⟨(rd1 bs).1, (rd2 bs).1, (rd3 bs).1⟩, (rd4 bs).1, (rd5 bs).1, (rdEs (rd6 bs).1.toNat (rd6 bs).2).1⟩ = bs := by
          unfold encV encH
          simp only [hlen]
          have b0' : bs = encI (rd1 bs).1 ++ (rd1 bs).2.bs := b0
          have b1' : (rd1 bs).2.bs = encI (rd2 bs).1 ++ (rd2 bs).2.bs := b1
          have b2' : (rd2 bs).2.bs = encI (rd3 bs).1 ++ (rd3 bs).2.bs := b2
          have b3' : (rd3 bs).2.bs = encU (rd4 bs).1 ++ (rd4 bs).2.bs := b3
          have b4' : (rd4 bs).2.bs = encR (rd5 bs).1 ++ (rd5 bs).2.bs := b4
          have b5' : (rd5 bs).2.bs = encI (rd6 bs).1 ++ (rd6 bs).2.bs := b5
          rw [hend.2, List.append_nil] at b6
          conv => rhs; rw [b0', b1', b2', b3', b4', b5', b6]
          simp
        refine ⟨key, by simpa using hv, ⟨rdI_range _, rdI_range _, rdI_range _, rdU_lt _, ?_, ?_, fun e hm => ?_⟩⟩
        · have := congrArg List.length key
          unfold encV encH encR at this
          simp only [List.length_append] at this
          show (rd5 bs).1.length ≤ _
          omega
        · have := congrArg List.length key
          have ge := ents_ge (rdEs (rd6 bs).1.toNat (rd6 bs).2).1
          unfold encV at this
          simp only [List.length_append] at this
          show (rdEs (rd6 bs).1.toNat (rd6 bs).2).1.length ≤ _
          omega
        · obtain ⟨h1, h2⟩ := rdEs_u _ _ e hm
          refine ⟨h1, h2, ?_⟩
          have hsub : (encE e).length ≤ ((rdEs (rd6 bs).1.toNat (rd6 bs).2).1.flatMap encE).length := by
            obtain ⟨p, q, hpq⟩ := List.append_of_mem hm
            rw [show (rdEs (rd6 bs).1.toNat (rd6 bs).2).1 = p ++ e :: q from hpq]
            simp only [List.flatMap_append, List.flatMap_cons, List.length_append]
            omega
          have := congrArg List.length key
          unfold encV at this
          simp only [List.length_append] at this
          have hE : e.s.length ≤ (encE e).length := by
            unfold encE encR
            simp only [List.length_append]
            omega
          omega
theorem encV_inj {a b : Val} (ha : Wf a) (hb : Wf b) (va : validV a = 0) (vb : validV b = 0) (h : encV a = encV b) : a = b := by
  have h1 := decV_enc ha va
  have h2 := decV_enc hb vb
  rw [h] at h1
  rw [h1] at h2
  exact congrArg Prod.snd h2
theorem decV_err (bs : List UInt8) : ((decV bs).1 = 0) ∨ ((decV bs).1 = 2 ∧ (decV bs).2 = noVal) := by
  unfold decV rdV
  split
  · exact .inr ⟨rfl, rfl⟩
  · split
    · exact .inr ⟨rfl, rfl⟩
    · split
      · exact .inr ⟨rfl, rfl⟩
      · exact .inl rfl
/-! #### The order -/
structure IsOrd {α : Type} (f : α → α → Int) : Prop where
  tri : ∀ a b, f a b = -1 ∨ f a b = 0 ∨ f a b = 1
  neg : ∀ a b, f b a = - f a b
  tr : ∀ a b c, f a b ≤ 0 → f b c ≤ 0 → f a c ≤ 0
theorem IsOrd.zero {α : Type} : IsOrd (fun _ _ : α => (0 : Int)) := ⟨fun _ _ => by simp, fun _ _ => by simp, fun _ _ _ _ _ => by simp⟩
theorem IsOrd.pull {α β : Type} {f : β → β → Int} (h : IsOrd f) (p : α → β) : IsOrd (fun a b => f (p a) (p b)) := ⟨fun _ _ => h.tri _ _, fun _ _ => h.neg _ _, fun _ _ _ => h.tr _ _ _⟩
theorem IsOrd.low {α : Type} {f : α → α → Int} (h : IsOrd f) {a b c : α} (h1 : f a b ≤ 0) (h2 : f b c ≤ 0) (h3 : f a c = 0) : f a b = 0 ∧ f b c = 0 := by
  have h4 := h.neg a c
  have h5 := h.tr b c a h2 (by omega)
  have h6 := h.tr c a b (by omega) h1
  have h7 := h.neg a b
  have h8 := h.neg b c
  constructor <;> omega
theorem IsOrd.lex {α : Type} {f g : α → α → Int} (hf : IsOrd f) (hg : IsOrd g) : IsOrd (fun a b => if f a b ≠ 0 then f a b else g a b) := by
  refine ⟨fun a b => ?_, fun a b => ?_, fun a b c h1 h2 => ?_⟩
  · have := hf.tri a b
    have := hg.tri a b
    show (if _ then _ else _) = _ ∨ (if _ then _ else _) = _ ∨ (if _ then _ else _) = _
    split <;> omega
  · have h1 := hf.neg a b
    have h2 := hg.neg a b
    show (if _ then _ else _) = - (if _ then _ else _)
    by_cases h : f a b = 0
    · rw [if_neg (by omega), if_neg (by omega)]; exact h2
    · rw [if_pos (by omega), if_pos (by omega)]; exact h1
  · have h1 : (if f a b ≠ 0 then f a b else g a b) ≤ 0 := h1
    have h2 : (if f b c ≠ 0 then f b c else g b c) ≤ 0 := h2
    show (if f a c ≠ 0 then f a c else g a c) ≤ 0
    have e1 : f a b ≤ 0 := by split at h1 <;> omega
    have e2 : f b c ≤ 0 := by split at h2 <;> omega
    have e3 := hf.tr a b c e1 e2
    split
    · exact e3
    · rename_i h
      have := hf.low e1 e2 (by simpa using h)
      rw [if_neg (by omega)] at h1 h2
      exact hg.tr a b c h1 h2
def lexL {α : Type} (f : α → α → Int) : List α → List α → Int
  | [], [] => 0
  | [], _ :: _ => -1
  | _ :: _, [] => 1
  | a :: l, b :: m => if f a b ≠ 0 then f a b else lexL f l m
theorem lexL_tri {α : Type} {f : α → α → Int} (h : IsOrd f) : ∀ a b : List α, lexL f a b = -1 ∨ lexL f a b = 0 ∨ lexL f a b = 1
  | [], [] => by simp [lexL]
  | [], _ :: _ => by simp [lexL]
  | _ :: _, [] => by simp [lexL]
  | a :: l, b :: m => by
    have := h.tri a b
    have := lexL_tri h l m
    unfold lexL
    split <;> omega
theorem lexL_neg {α : Type} {f : α → α → Int} (h : IsOrd f) : ∀ a b : List α, lexL f b a = - lexL f a b
  | [], [] => by simp [lexL]
  | [], _ :: _ => by simp [lexL]
  | _ :: _, [] => by simp [lexL]
  | a :: l, b :: m => by
    have h1 := h.neg a b
    have h2 := lexL_neg h l m
    unfold lexL
    by_cases hz : f a b = 0
    · rw [if_neg (by omega), if_neg (by omega)]; exact h2
    · rw [if_pos (by omega), if_pos (by omega)]; exact h1
theorem lexL_tr {α : Type} {f : α → α → Int} (h : IsOrd f) : ∀ a b c : List α, lexL f a b ≤ 0 → lexL f b c ≤ 0 → lexL f a c ≤ 0
  | [], _, [], _, _ => by simp [lexL]
  | [], _, _ :: _, _, _ => by simp [lexL]
  | _ :: _, [], _, h1, _ => by simp [lexL] at h1
  | _ :: _, _ :: _, [], _, h2 => by simp [lexL] at h2
  | a :: l, b :: m, c :: k, h1, h2 => by
    unfold lexL at h1 h2 ⊢
    have e1 : f a b ≤ 0 := by split at h1 <;> omega
    have e2 : f b c ≤ 0 := by split at h2 <;> omega
    have e3 := h.tr a b c e1 e2
    split
    · exact e3
    · rename_i hz
      have := h.low e1 e2 (by simpa using hz)
      rw [if_neg (by omega)] at h1 h2
      exact lexL_tr h l m k h1 h2
theorem IsOrd.list {α : Type} {f : α → α → Int} (h : IsOrd f) : IsOrd (lexL f) := ⟨lexL_tri h, lexL_neg h, lexL_tr h⟩
theorem IsOrd.cong {α : Type} {f g : α → α → Int} (h : IsOrd f) (e : ∀ a b, g a b = f a b) : IsOrd g := ⟨fun a b => by rw [e]; exact h.tri a b, fun a b => by rw [e, e]; exact h.neg a b, fun a b c => by rw [e, e, e]; exact h.tr a b c⟩
theorem ord_I : IsOrd cmpI := by
  refine ⟨fun a b => ?_, fun a b => ?_, fun a b c => ?_⟩
  · unfold cmpI; split <;> (try split) <;> omega
  · unfold cmpI; split <;> (try split) <;> (try split) <;> omega
  · unfold cmpI; split <;> (try split) <;> (try split) <;> (try split) <;> (try split) <;> (try split) <;> omega
theorem cmpS_lex : ∀ a b : List UInt8, cmpS a b = lexL (fun x y : UInt8 => cmpI x.toNat y.toNat) a b
  | [], [] => rfl
  | [], _ :: _ => rfl
  | _ :: _, [] => rfl
  | a :: l, b :: m => by
    unfold cmpS lexL
    rw [cmpS_lex l m]
theorem ord_S : IsOrd cmpS := (ord_I.pull (fun x : UInt8 => (x.toNat : Int))).list.cong cmpS_lex
theorem ord_E : IsOrd cmpE := ((ord_I.pull fun e : Ent => (e.i : Int)).lex ((ord_I.pull fun e : Ent => (e.u : Int)).lex ((ord_S.pull fun e : Ent => e.s).lex IsOrd.zero))).cong fun _ _ => rfl
theorem cmpM_lex : ∀ a b : List Ent, cmpM a b = lexL cmpE a b
  | [], [] => rfl
  | [], _ :: _ => rfl
  | _ :: _, [] => rfl
  | a :: l, b :: m => by
    unfold cmpM lexL
    rw [cmpM_lex l m]
theorem ord_V : IsOrd cmpV :=
  (IsOrd.lex (((ord_I.pull fun v : Val => v.t.k).lex ((ord_I.pull fun v : Val => v.t.n).lex ((ord_I.pull fun v : Val => v.t.x).lex ((ord_I.pull fun v : Val => (v.u : Int)).lex ((ord_S.pull fun v : Val => v.s).lex IsOrd.zero)))))) ((ord_E.list.cong cmpM_lex).pull fun v : Val => v.m)).cong fun _ _ => rfl
end Go.Proofs.Ytjjhfdjpmonlaaa
