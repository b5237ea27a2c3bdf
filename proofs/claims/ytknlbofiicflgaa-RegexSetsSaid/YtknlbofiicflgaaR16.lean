/- Package regex: the loop over the tokens: what it does. -/
import Derived.Test.YtknlbofiicflgaaR15
namespace Go.Proofs.Ytknlbofiicflgaa
open Go Go.W

abbrev tkC (t : Tk) : List Value := [.int .u8 (t.k.toNat : Int), .int .u8 (t.lo.toNat : Int), .int .u8 (t.hi.toNat : Int), .string (ba t.s), .int .i64 t.a]
/-- nothing -/
def enNil : En := ⟨[], fun _ => True, fun _ _ _ h => h, fun _ _ b hb => by simp at hb, by simp⟩
abbrev GP (t2 t3 t4 D l_ bs : Nat) (s : ByteArray) (v3 v4 : Value) (o : Obj) : List En := [.c t2 [.int .i64 0, .int .u8 0, .int .u8 0, .slice none 0 0] ty_regex_Regex, .c t3 [v3] ty_int, .c t4 [v4] ty_api_Errno, .ob D (.deferred (some [])), .ob l_ o, .c bs [.string s] ty_string]
def PS (w0 w : World) (rb : Nat) (G : List En) (S : SX) : Prop := ∃ (sl : Sl) (fs : List FM) (f : FM) (ts : List Rt) (p : Addr), fs.map FM.x = S.lo ∧ f.x = S.tp ∧ (∀ g ∈ fs ++ [f], ∀ t ∈ g.ts, t ∈ ts) ∧ sl.a = some p ∧ (∀ b ∈ Rt.fps ts, w0.heap.size ≤ b) ∧ SF F0 w0 w rb sl S.st S.wd fs f G ts
def PE (w0 w : World) (rb : Nat) (G : List En) : Prop := ∃ (sl : Sl) (fs : List FM) (f : FM) (ts : List Rt) (st wd : Int), SF F0 w0 w rb sl st wd fs f G ts
section
variable {s : ByteArray} {w0 : World} {rb t2 t3 t4 D l_ bs : Nat} {o_ : LoopState → Option Code → Obj}
abbrev HYP (s : ByteArray) (rb t2 t3 t4 l_ bs : Nat) (o_ : LoopState → Option Code → Obj) : Prop :=
  ∀ (x17_0 x17_1 x17_2 : Int) (x17_3 : ByteArray) (x17_4 : Int) (w_ : World) (K_ : Bool → World → Prop), w_.heap[l_]? = some (o_ .ready none) → regex_Parse.B_S0 l_ o_ s (at0 t2) (at0 t3) (at0 t4) (at0 rb) (at0 bs) x17_0 x17_1 x17_2 x17_3 x17_4 w_ (fun r_ w1 => ∃ b_ : Bool, r_ = .returned (.bool b_) ∧ K_ b_ w1) → W.yieldB Try.prog l_ #[.agg #[.int .u8 x17_0, .int .u8 x17_1, .int .u8 x17_2, .string x17_3, .int .i64 x17_4]] w_ K_
theorem p_round (hY : HYP s rb t2 t3 t4 l_ bs o_) {S : SX} {m : Nat} (hI : Inv S m) (hm : m ≤ 900000) (t : Tk) {e : En} {w : World} (H : PS w0 w rb (GP t2 t3 t4 D l_ bs s (.int .i64 0) (.int .i64 0) (o_ .ready none) ++ [e]) S) {K : Bool → World → Prop}
    (hbad : ∀ w' s', feedX s' t S = none → PE w0 w' rb (GP t2 t3 t4 D l_ bs s (.int .i64 t.a) (.int .i64 2) (o_ .done (some .ret)) ++ [e]) → K false w')
    (hok : ∀ w' s' S', feedX s' t S = some S' → PS w0 w' rb (GP t2 t3 t4 D l_ bs s (.int .i64 0) (.int .i64 0) (o_ .ready none) ++ [e]) S' → K true w') : W.yieldB Try.prog l_ #[t.v] w K := by
  obtain ⟨lo, tp, st, wd⟩ := S
  obtain ⟨sl, fs, f, ts, p, hlo, htp, h3, h4, hb, H⟩ := H
  have hlo : fs.map FM.x = lo := hlo
  have htp : f.x = tp := htp
  subst hlo htp
  refine hY _ _ _ _ _ w K (H.ob 7) ?_
  refine H.nw fun w1 _ H1 => H1.st5 10 rfl fun w2 H2 => H2.pu 7 rfl fun w3 H3 => ⟨_, _, _, _, _, H3.ld 10 0, H3.ld 10 1, H3.ld 10 2, H3.ld 10 3, H3.ld 10 4, ?_⟩
  have H3' : SF F0 w0 w3 rb sl st wd fs f (GP t2 t3 t4 D l_ bs s (.int .i64 0) (.int .i64 0) (o_ .busy none) ++ [e, .c w.heap.size (tkC t) ty_regex_token]) ts := H3
  refine H3'.csS0 h3 h4 (fun own1 s1 => c_feed s1 (Nat.le_trans hI.lo (by omega)) (hI.tp.mono (by omega)) hI.s1 t) ?_
  rintro r w4 sl4 fs4 f4 p4 st4 wd4 ts4 t4' h34 h44 b4 ⟨s', hsay⟩ H4
  rcases hsay with ⟨hn, rfl⟩ | ⟨hs, rfl⟩
  · refine ⟨false, rfl, sel_true rfl ?_⟩
    refine H4.dr fun w5 H5 => ⟨t.a, H5.ld 10 4, H5.st4 3 rfl fun w6 H6 => ⟨H6.ld 10 4, H6.st0 4 rfl fun w7 H7 => H7.st0 5 rfl fun w8 H8 => H8.pu 7 rfl fun w9 H9 => ⟨false, rfl, hbad w9 s' hn ⟨sl4, fs4, f4, ts4, st4, wd4, ?_⟩⟩⟩⟩
    exact H9.take 10
  · refine ⟨true, rfl, sel_false rfl (H4.pu 7 rfl fun w5 H5 => ⟨true, rfl, hok w5 s' _ hs ⟨sl4, fs4, f4, ts4, p4, rfl, rfl, h34, h44, fun b hb' => ?_, H5.take 10⟩⟩)⟩
    rcases b4 b hb' with h | h | h
    · exact hb b h
    · exact h
    · exact h.elim
def PEnd (w0 : World) (rb t2 t3 t4 D l_ bs : Nat) (s : ByteArray) (o_ : LoopState → Option Code → Obj) (w' : World) : Int ⊕ SX → Prop
  | .inl a => PE w0 w' rb (GP t2 t3 t4 D l_ bs s (.int .i64 a) (.int .i64 2) (o_ .done (some .ret)))
  | .inr S => PS w0 w' rb (GP t2 t3 t4 D l_ bs s (.int .i64 0) (.int .i64 0) (o_ .ready none)) S
theorem p_loop (hs : s.size ≤ 4096) (hY : HYP s rb t2 t3 t4 l_ bs o_) (R : Post) : ∀ (n i m : Nat) (S : SX) (w : World), s.size - i < n → i ≤ s.size → Inv S m → m + n ≤ 900000 →
    PS w0 w rb (GP t2 t3 t4 D l_ bs s (.int .i64 0) (.int .i64 0) (o_ .ready none)) S →
    (∀ w' res, RunR (toksX (bl s) n i) S res → PEnd w0 rb t2 t3 t4 D l_ bs s o_ w' res → R (.returned (.tuple #[])) w') → regex_tokens_1.L0 l_ (at0 bs) (i : Int) w R := by
  intro n
  induction n with
  | zero => intro i m S w h; omega
  | succ n ih =>
    intro i m S w hn hi hI hm hP hR
    have hl : (bl s).length = s.size := bl_len s
    have hP0 := hP
    obtain ⟨sl, fs, f, ts, p, hlo, htp, h3, h4, hb, H⟩ := hP0
    refine regex_tokens_1.L0_step _ _ _ _ _ ⟨s, H.ld0 8, sel_dec (fun h => ⟨s, H.ld0 8, by omega, _, s_at (i := i) (by omega), u8_sel (n := 32) (by omega) (fun hc : (bl s).getD i 0 = 32 => ?_) (fun hc : (bl s).getD i 0 ≠ 32 => ⟨s, H.ld0 8, H.call (c_tokenAt s (by omega) i (by omega) w) ?_⟩)⟩) (fun h => ⟨s, H.ld0 8, ?_⟩)⟩
    · rw [show IntKind.wrap .i64 ((i : Int) + 1) = ((i + 1 : Nat) : Int) by rw [IntWalk.i64_in _ (by omega)]; omega]
      refine ih (i + 1) m S w (by omega) (by omega) hI (by omega) hP (fun w' res hr he => hR w' res ?_ he)
      unfold toksX
      rw [if_pos (by omega), if_pos hc]
      exact hr
    · rintro _ w1 rfl H1
      have hpos := tokX_pos (l := bl s) (i := i) (by omega)
      have et : toksX (bl s) (n + 1) i = (tokX (bl s) i).1 :: toksX (bl s) n (i + (tokX (bl s) i).2) := by
        rw [toksX, if_pos (by omega), if_neg hc]
      rw [et] at hR
      refine ⟨_, _, _, _, _, _, rfl, H1.nw fun w2 _ H2 => H2.st5 9 rfl fun w7 H7 => ⟨_, _, _, _, _, H7.ld 9 0, H7.ld 9 1, H7.ld 9 2, H7.ld 9 3, H7.ld 9 4, ?_⟩⟩
      have H7' : SF F0 w0 w7 rb sl S.st S.wd fs f (GP t2 t3 t4 D l_ bs s (.int .i64 0) (.int .i64 0) (o_ .ready none) ++ [.c w1.heap.size (tkC (tokX (bl s) i).1) ty_regex_token]) ts := H7
      refine p_round hY hI (by omega) (tokX (bl s) i).1 (e := .c w1.heap.size (tkC (tokX (bl s) i).1) ty_regex_token) ⟨sl, fs, f, ts, p, hlo, htp, h3, h4, hb, H7'⟩ (fun w8 s' hno hE => sel_true rfl (hR w8 (.inl (tokX (bl s) i).1.a) ⟨s', .inl ⟨hno, rfl⟩⟩ ?_)) (fun w8 s' S' hyes hE => sel_false rfl ?_)
      · obtain ⟨sl8, fs8, f8, ts8, st8, wd8, H8⟩ := hE
        exact ⟨sl8, fs8, f8, ts8, st8, wd8, H8.take 9⟩
      · obtain ⟨sl8, fs8, f8, ts8, p8, hlo8, htp8, h38, h48, hb8, H8⟩ := hE
        refine ⟨_, H8.ld 9 0, u8_sel (n := 63) (by omega) (fun hk : (tokX (bl s) i).1.k = 63 => ?_) (fun hk => ?_)⟩
        · rw [feed_bad hk] at hyes; cases hyes
        · rw [show IntKind.wrap .i64 ((i : Int) + ((tokX (bl s) i).2 : Int)) = ((i + (tokX (bl s) i).2 : Nat) : Int) by rw [IntWalk.i64_in _ (by omega)]; omega]
          refine ih (i + (tokX (bl s) i).2) (m + 1) S' w8 (by omega) (by omega) (feed_inv hI hyes) (by omega) ⟨sl8, fs8, f8, ts8, p8, hlo8, htp8, h38, h48, hb8, H8.take 9⟩ (fun w' res hr he => hR w' res ⟨s', .inr ⟨S', hyes, hr⟩⟩ he)
    · have et : toksX (bl s) (n + 1) i = [⟨36, 0, 0, [], (bl s).length⟩] := by
        rw [toksX, if_neg (by omega)]
      rw [et, hl] at hR
      have H1 := H.push enNil (Fr.refl _ _) trivial (fun b hb => by cases hb)
      refine p_round hY hI (by omega) ⟨36, 0, 0, [], (s.size : Int)⟩ (e := enNil) ⟨sl, fs, f, ts, p, hlo, htp, h3, h4, hb, H1⟩ (fun w8 s' hno hE => hR w8 (.inl (s.size : Int)) ⟨s', .inl ⟨hno, rfl⟩⟩ ?_) (fun w8 s' S' hyes hE => hR w8 (.inr S') ⟨s', .inr ⟨S', hyes, rfl⟩⟩ ?_)
      · obtain ⟨sl8, fs8, f8, ts8, st8, wd8, H8⟩ := hE
        exact ⟨sl8, fs8, f8, ts8, st8, wd8, H8.take 9⟩
      · obtain ⟨sl8, fs8, f8, ts8, p8, hlo8, htp8, h38, h48, hb8, H8⟩ := hE
        exact ⟨sl8, fs8, f8, ts8, p8, hlo8, htp8, h38, h48, hb8, H8.take 9⟩
end
end Go.Proofs.Ytknlbofiicflgaa
