/- Writers, readers and bytes as things of one's own. -/
import Derived.Test.YtjjhfdjpmonlaaaRF
import Derived.Test.YtjjhfdjpmonlaaaWE
import Derived.Test.YtjjhfdjpmonlaaaX
namespace Go.Proofs.Ytjjhfdjpmonlaaa
open Go Go.W

/-- a writer -/
def _root_.Go.W.En.wr (wb : Nat) (bs : List UInt8) (own : List Nat) : En := ⟨nub own, fun w => WrRep w wb bs own, fun w w' h hp => (by
  obtain ⟨s, rfl, h1, h2⟩ := hp
  have hk : ∀ b ∈ wb :: blkL s, w'.heap[b]? = w.heap[b]? := fun b hb => h b (mem_nub.2 hb) (WrRep.lt ⟨s, rfl, h1, h2⟩ b hb)
  exact ⟨s, rfl, (hk wb (by simp)).trans h1, h2.1, h2.2.keep fun b hb _ => hk b (by simp [hb])⟩), fun w hp b hb => hp.lt b (mem_nub.1 hb), nub_nodup _⟩
/-- a reader -/
def _root_.Go.W.En.rdr (rb : Nat) (st : RS) (fp : List Nat) : En := ⟨nub fp, fun w => RdRep w rb st fp, fun w w' h hp => (by
  obtain ⟨s, all, k, rfl, h1, h2, h3⟩ := hp
  have hk : ∀ b ∈ rb :: blkL s, w'.heap[b]? = w.heap[b]? := fun b hb => h b (mem_nub.2 hb) (RdRep.lt ⟨s, all, k, rfl, h1, h2, h3⟩ b hb)
  exact ⟨s, all, k, rfl, (hk rb (by simp)).trans h1, ⟨h2.1, h2.2.keep fun b hb _ => hk b (by simp [hb])⟩, h3⟩), fun w hp b hb => hp.lt b (mem_nub.1 hb), nub_nodup _⟩
/-- a thing that is more than a place -/
theorem ghost_off {M : Nat → Prop} {w0 w : World} {L D : List En} (H : LH M w0 w L D) {i : Nat} {e : En} (hi : L[i]? = some e) (hno : ∀ (b : Nat), ¬ e.P ({ w with heap := Array.replicate (b + 1) (.map #[] 0) })) {b : Nat} (hb : En.g b ∈ L) : b ∉ e.fp := by
  obtain ⟨j, hj⟩ := List.mem_iff_getElem?.1 hb
  by_cases hij : i = j
  · subst hij
    rw [hi] at hj
    have e1 : e = En.g b := Option.some.inj hj
    exfalso
    refine hno b ?_
    rw [e1]
    show b < _
    simp
  · intro hm
    exact disj_of H.nd hi hj hij b hm (by simp [En.g])
theorem wr_off (wb : Nat) (bs : List UInt8) (own : List Nat) (w : World) (b : Nat) : ¬ (En.wr wb bs own).P ({ w with heap := Array.replicate (b + 1) (.map #[] 0) }) := by
  rintro ⟨s, _, h1, _⟩
  have := lt_of_heap h1
  simp [Array.getElem?_replicate] at h1
theorem rdr_off (rb : Nat) (st : RS) (fp : List Nat) (w : World) (b : Nat) : ¬ (En.rdr rb st fp).P ({ w with heap := Array.replicate (b + 1) (.map #[] 0) }) := by
  rintro ⟨s, all, k, _, h1, _⟩
  simp [Array.getElem?_replicate] at h1
section
variable {M : Nat → Prop} {w0 w : World} {L D : List En} {bs : List Nat}
/-- a method of a writer -/
theorem _root_.Go.W.LH.wm (H : LH M w0 w L D) (i : Nat) {wb : Nat} {l l' : List UInt8} {own : List Nat} {g : FuncId} {args : Array Value} {K : Post} (hi : L[i]? = some (.wr wb l own)) (hc : WrRep w wb l own → Calls Try.prog g args w (WrPost w wb own l'))
    (hk : ∀ w' own', LH M w0 w' (L.set i (.wr wb l' own')) D → K (.returned (.tuple #[])) w') (hbs : ∀ b ∈ bs, En.g b ∈ L := by simp) : callF bs Try.prog g args w K := by
  refine ⟨(· ∈ own), fun b hb hm => ?_, (hc (H.get i hi)).mono fun r w' ⟨hr, own', r', f, o⟩ => ⟨f, ?_⟩⟩
  · exact ghost_off H hi (wr_off wb l own w) (hbs b hb) (mem_nub.2 hm)
  · subst hr
    refine hk w' own' (H.upd i (.wr wb l' own') hi (f.mono fun x _ hx => mem_nub.2 hx) r' fun b hb => ?_)
    exact (o b (mem_nub.1 hb)).imp mem_nub.2 id
/-- a method of a reader -/
theorem _root_.Go.W.LH.rm (H : LH M w0 w L D) (i : Nat) {rb : Nat} {st st' : RS} {fp : List Nat} {v : Value} {g : FuncId} {args : Array Value} {K : Post} (hi : L[i]? = some (.rdr rb st fp)) (hc : RdRep w rb st fp → Calls Try.prog g args w (RdPost w rb fp v st'))
    (hk : ∀ w', LH M w0 w' (L.set i (.rdr rb st' fp)) D → K (.returned v) w') (hbs : ∀ b ∈ bs, En.g b ∈ L := by simp) : callF bs Try.prog g args w K := by
  have hrep : RdRep w rb st fp := H.get i hi
  refine ⟨(· = rb), fun b hb hm => ?_, (hc hrep).mono fun r w' ⟨hr, r', f⟩ => ⟨f, ?_⟩⟩
  · subst hm
    exact ghost_off H hi (rdr_off b st fp w) (hbs b hb) (mem_nub.2 hrep.mem)
  · subst hr
    exact hk w' (H.upd i (.rdr rb st' fp) hi (f.mono fun x _ hx => mem_nub.2 (by rw [hx]; exact hrep.mem)) r' fun b hb => .inl hb)
/-- the same where nobody watches -/
theorem _root_.Go.W.LH.rm0 (H : LH M w0 w L D) (i : Nat) {rb : Nat} {st st' : RS} {fp : List Nat} {v : Value} {g : FuncId} {args : Array Value} {K : Post} (hi : L[i]? = some (.rdr rb st fp)) (hc : RdRep w rb st fp → Calls Try.prog g args w (RdPost w rb fp v st'))
    (hk : ∀ w', LH M w0 w' (L.set i (.rdr rb st' fp)) D → K (.returned v) w') : Calls Try.prog g args w K := by
  obtain ⟨_, _, h⟩ := H.rm (bs := []) i hi hc hk (by simp)
  exact h.mono fun r w' h => h.2
/-- a new writer -/
theorem _root_.Go.W.LH.newwr (H : LH M w0 w L D) {K : World → Prop} (hk : ∀ w', LH M w0 w' (L ++ [.wr w.heap.size [] [w.heap.size]]) D → K w') : nwV w (.cells #[.slice none 0 0] ty_wire_Writer) K :=
  hk _ (H.push _ (Fr.alloc _ _ _) (WrRep.new w) fun b hb => by have := mem_nub.1 hb; simp at this; omega)
abbrev _root_.Go.W.En.by (s : Sl) (l : List UInt8) : En := .row ty_uint8 1 s (l.map byteV)
theorem own_bytes {w : World} {s : Sl} {l : List UInt8} (h : OwnRow w ty_uint8 1 s (l.map byteV)) : BytesO w s l := h.ow1
/-- appending bytes -/
theorem _root_.Go.W.LH.apb (H : LH M w0 w L D) (i : Nat) {ty : TypeId} {s src : Sl} {l m : List UInt8} {K : Sl → World → Prop} (hi : L[i]? = some (.by s l)) (hr : Bytes w src m) (hb : l.length + m.length ≤ 100000000000000)
    (hK : ∀ s' w', LH M w0 w' (L.set i (.by s' (l ++ m))) D → K s' w') (hbs : ∀ b ∈ bs, En.g b ∈ L := by simp) :
    ∃ s' w', (Builtin.append_ #[ty_sl_uint8, ty_sl_uint8] ty #[s.v, src.v]).run Try.prog w = .ok s'.v w' ∧ kept bs w w' ∧ K s' w' := by
  have n1 := (own_bytes (H.get i hi)).1
  have n2 := hr.1
  simp only [List.length_map] at n1 n2
  refine H.apT i el_bytes (ty := ty) (src := src) (news := m.map byteV) hi ⟨by simp [n2], hr.2.1, hr.2.2⟩ (byteV_one _) (by omega) (fun s' w' h => hK s' w' ?_) hbs
  rwa [← List.map_append] at h
/-- the same where nobody watches -/
theorem _root_.Go.W.LH.apb0 (H : LH M w0 w L D) (i : Nat) {ty : TypeId} {s src : Sl} {l m : List UInt8} {K : Sl → World → Prop} (hi : L[i]? = some (.by s l)) (hr : Bytes w src m) (hb : l.length + m.length ≤ 100000000000000)
    (hK : ∀ s' w', LH M w0 w' (L.set i (.by s' (l ++ m))) D → K s' w') :
    ∃ s' w', (Builtin.append_ #[ty_sl_uint8, ty_sl_uint8] ty #[s.v, src.v]).run Try.prog w = .ok s'.v w' ∧ K s' w' := by
  obtain ⟨s', w', h1, _, h2⟩ := H.apb (bs := []) i (ty := ty) hi hr hb hK (by simp)
  exact ⟨s', w', h1, h2⟩
/-- a byte is stored -/
theorem _root_.Go.W.LH.stb (H : LH M w0 w L D) (i : Nat) {s : Sl} {l : List UInt8} (j : Nat) (c : UInt8) {K : World → Prop} (hi : L[i]? = some (.by s l)) (hj : j < l.length) (hK : ∀ w', LH M w0 w' (L.set i (.by s (l.set j c))) D → K w') :
    optP s.a fun p => stV w (p.add (j * 1)) (.int .u8 (c.toNat : Int)) K := by
  obtain ⟨p, hp, hpb, x1, x2, x3, x4⟩ := own_set (H.get i hi) (j * 1) (by simpa using hj) (byteV c)
  rw [hp]
  refine ⟨x1, x2, hK _ (H.upd i (.by s (l.set j c)) hi x4 ?_ (fun b hb => .inl hb))⟩
  rw [Nat.mul_one, ← List.map_set] at x3
  rw [Nat.mul_one]
  exact x3
/-- bytes that are returned -/
theorem _root_.Go.W.LH.callb (H : LH M w0 w L D) {g : FuncId} {args : Array Value} {l : List UInt8} {K : Post} (hc : Calls Try.prog g args w (NewBytes w l)) (hk : ∀ s w', LH M w0 w' L D → Fresh M w0 w w' L D → BytesO w' s l → (∀ b ∈ blkL s, w.heap.size ≤ b) → K (.returned s.v) w') : callF bs Try.prog g args w K :=
  callF0 (hc.mono fun r w' ⟨s, hr, ho, f, hn⟩ => ⟨f, by subst hr; exact hk s w' (H.fr0 f) (H.fresh f) ho hn⟩)
theorem _root_.Go.W.LH.callb0 (H : LH M w0 w L D) {g : FuncId} {args : Array Value} {l : List UInt8} {K : Post} (hc : Calls Try.prog g args w (NewBytes w l)) (hk : ∀ s w', LH M w0 w' L D → Fresh M w0 w w' L D → BytesO w' s l → (∀ b ∈ blkL s, w.heap.size ≤ b) → K (.returned s.v) w') : Calls Try.prog g args w K :=
  hc.mono fun r w' ⟨s, hr, ho, f, hn⟩ => by subst hr; exact hk s w' (H.fr0 f) (H.fresh f) ho hn
/-- a string's bytes -/
theorem _root_.Go.W.LH.str (H : LH M w0 w L D) (t : ByteArray) {K : Sl → World → Prop} (hK : ∀ s' w', LH M w0 w' L D → Bytes w' s' (bl t) → K s' w') (hbs : ∀ b ∈ bs, En.g b ∈ L := by simp) :
    ∃ s' w', (Go.convert ty_string ty_sl_uint8 (.string t)).run Try.prog w = .ok s'.v w' ∧ kept bs w w' ∧ K s' w' := by
  obtain ⟨s', w', h1, h2, h3, _⟩ := str_bytes w t
  exact ⟨s', w', h1, fun b hb => h3.keep b (H.own _ (hbs b hb)) id, hK s' w' (H.fr0 h3) h2⟩
end
end Go.Proofs.Ytjjhfdjpmonlaaa
