/- Package regex: what the texts of the examples are; no program in sight. -/
import Derived.Test.YtknlbofiicflgaaR18
namespace Go.Proofs.Ytknlbofiicflgaa
open Go Go.W

def zSl : Sl := ⟨none, 0, 0⟩
def er (f : FX) : FX := ⟨f.k, (zSl, f.ar.2), f.al, f.an, f.ca, f.n, f.la⟩
def erS (S : SX) : SX := ⟨S.lo.map er, er S.tp, S.st, S.wd⟩
theorem item_er (t : Tk) (S : SX) : (itemX t S).map erS = itemX t (erS S) := by
  have e1 : er (newFX (-1)) = newFX (-1) := rfl
  have e2 : (S.lo ++ [S.tp]).map er = S.lo.map er ++ [er S.tp] := by simp
  unfold itemX
  split
  · rfl
  · split
    · simp only [Option.map_some, erS, e1, e2]
    · split
      · rfl
      · split
        · split
          · rfl
          · split
            · rfl
            · split
              · rfl
              · split
                · rfl
                · split <;> rfl
        · rfl
theorem close_er (S : SX) (l : List Rx) : (closeX S l).map erS = closeX (erS S) l := by
  unfold closeX
  rcases nil_snoc S.lo with e | ⟨a, g, e⟩
  · simp [e, erS]
  · have e' : (erS S).lo = a.map er ++ [er g] := by simp [erS, e]
    rw [e, e']
    simp [erS]
    rfl
theorem feed_er (s' : Sl) (t : Tk) (S : SX) : (feedX s' t S).map erS = feedX zSl t (erS S) := by
  have e2 : (S.lo ++ [S.tp]).map er = S.lo.map er ++ [er S.tp] := by simp
  have c1 : (erS S).st = S.st := rfl
  have c2 : (erS S).tp.k = S.tp.k := rfl
  unfold feedX
  rw [c1, c2]
  by_cases h2 : S.st = 2
  · rw [if_pos h2, if_pos h2]
    split
    · show some (erS ⟨S.lo ++ [S.tp], newFX S.wd, 1, S.wd⟩) = some ⟨S.lo.map er ++ [er S.tp], newFX S.wd, 1, S.wd⟩
      rw [← e2]; rfl
    · rfl
  rw [if_neg h2, if_neg h2]
  split
  · split
    · exact close_er S []
    · exact item_er t S
  · split
    · exact item_er t S
    · split
      · rfl
      · split
        · rfl
        · split
          · rfl
          · split
            · split <;> rfl
            · split
              · by_cases e : S.lo = []
                · rw [if_pos e, if_pos (show (erS S).lo = [] by simp [erS, e])]; rfl
                · rw [if_neg e, if_neg (show ¬ (erS S).lo = [] by simp [erS, e])]; exact close_er S _
              · split
                · by_cases e : S.lo = []
                  · rw [if_pos e, if_pos (show (erS S).lo = [] by simp [erS, e])]; rfl
                  · rw [if_neg e, if_neg (show ¬ (erS S).lo = [] by simp [erS, e])]; rfl
                · exact item_er t ⟨S.lo, endItemX S.tp, S.st, S.wd⟩
def runE : List Tk → SX → Int ⊕ SX
  | [], S => .inr S
  | t :: ts, S => match feedX zSl t S with
    | none => .inl t.a
    | some S' => runE ts S'
def erR : Int ⊕ SX → Int ⊕ SX
  | .inl a => .inl a
  | .inr S => .inr (erS S)
theorem run_er : ∀ (ts : List Tk) (S : SX) (r : Int ⊕ SX), RunR ts S r → erR r = runE ts (erS S)
  | [], S, r, h => by
    have h : r = .inr S := h
    subst h; rfl
  | t :: ts, S, r, h => by
    obtain ⟨s', ⟨h1, h2⟩ | ⟨S1, h1, h2⟩⟩ := h
    · subst h2
      have := feed_er s' t S
      rw [h1] at this
      unfold runE
      rw [← this]
      rfl
    · have := feed_er s' t S
      rw [h1] at this
      unfold runE
      rw [← this]
      exact run_er ts S1 r h2
/-- what a text is, without slices -/
def txt (l : List UInt8) : Int ⊕ SX := runE (toksX l (l.length + 1) 0) sx0
theorem txt_of {s : ByteArray} {r : Int ⊕ SX} (h : RunR (toksX (bl s) (s.size + 1) 0) sx0 r) : erR r = txt (bl s) := by
  have := run_er _ _ _ h
  rw [this]
  unfold txt
  rw [bl_len]
  rfl
theorem expr_er (S : SX) : exprX (erS S).tp = exprX S.tp := rfl
def tA : List UInt8 := [39, 97, 39, 39, 98, 39, 124, 33, 40, 39, 97, 39, 38, 91, 97, 45, 122, 93, 41]
def tB : List UInt8 := [39, 97, 39, 39, 98, 39, 124, 33, 40, 39, 97, 39, 38, 91, 39, 97, 39, 45, 39, 122, 39, 93, 41]
def tC : List UInt8 := [39, 97, 39, 42, 39, 98, 39]
def lit (c : UInt8) : Rx := .mk 2 c c []
theorem txt_A : ∃ a, txt tA = .inl a := ⟨_, rfl⟩
theorem txt_B : ∃ S, txt tB = .inr S ∧ exprX S.tp = .mk 4 0 0 [.mk 3 0 0 [lit 97, lit 98], .mk 6 0 0 [.mk 5 0 0 [lit 97, .mk 2 97 122 []]]] := ⟨_, rfl, rfl⟩
theorem txt_C : ∃ S, txt tC = .inr S ∧ exprX S.tp = .mk 3 0 0 [.mk 7 0 0 [lit 97], lit 98] := ⟨_, rfl, rfl⟩
end Go.Proofs.Ytknlbofiicflgaa
