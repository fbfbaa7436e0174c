/-
  Drawing out of a source: what stays true from draw to draw.
-/
import Derived.Test.YtjfmpnkbocilpaaSrc
import Derived.Test.YtjfmpnkbocilpaaOpen
namespace Go.Proofs.Ytjfmpnkbocilpaa
open Go.ChangeShapes Go.WideShapes Go.ChangeAt Go.RowKit

/-- block g is a source over the code xs, made after w0; what was there in w0 is as it was -/
def Drawing (w0 : World) (g : Nat) (a : Option Addr) (n c : Nat) (xs : List Int) (w : World) : Prop :=
  SrcAt w g a n c ∧ Ints w w0.heap.size .u8 a n xs ∧ w0.heap.size ≤ g ∧ (∀ i, i < n → (Lit.int .u8 (xs.getD i 0)).wf = true) ∧ n ≤ 4096 ∧ Below w0.heap.size w0 w

section
variable {w0 w w1 : World} {g n c : Nat} {a : Option Addr} {xs : List Int}
theorem SrcAt.lt (h : SrcAt w g a n c) : g < w.heap.size := by
  obtain ⟨_, _, _, _, _, h⟩ := h
  exact h.lt
theorem SrcAt.of_block (h : SrcAt w g a n c) (e : w1.heap[g]? = w.heap[g]?) : SrcAt w1 g a n c := by
  obtain ⟨i, s, h1, h2, h3, h⟩ := h
  exact ⟨i, s, h1, h2, h3, h.of_block e⟩
theorem Drawing.below (h : Drawing w0 g a n c xs w) : Below w0.heap.size w0 w := h.2.2.2.2.2
theorem Drawing.lt (h : Drawing w0 g a n c xs w) : g < w.heap.size := h.1.lt
theorem Drawing.after (h : Drawing w0 g a n c xs w) (hb : Below w.heap.size w w1) : Drawing w0 g a n c xs w1 := by
  obtain ⟨h1, h2, h3, h4, h5, h6⟩ := h
  exact ⟨h1.of_block (hb.block g h1.lt), h2.below (hb.mono h6.size), h3, h4, h5, h6.trans (hb.mono h6.size)⟩
theorem Drawing.alloc (h : Drawing w0 g a n c xs w) (o : Obj) : Drawing w0 g a n c xs (w.alloc o) := h.after ((Below.refl _ _).alloc (Nat.le_refl _) _)
end

def DPost (m : Int) (w0 : World) (g : Nat) (a : Option Addr) (n c : Nat) (xs : List Int) (w : World) (e : Ending) (w' : World) : Prop :=
  ∃ x : Int, e = .returned (.int .i64 x) ∧ 0 ≤ x ∧ (x < m ∨ x = 0) ∧ Drawing w0 g a n c xs w' ∧ w.grownBy w' (some g)

theorem from_dr (a : Option Addr) (n c : Nat) (xs : List Int) (w : World) (h : IntsArg w .u8 a n xs) (hn : n ≤ 4096) :
    Calls Try.prog 30 #[.slice a n c] w fun e w' => e = .returned (.pointer (some ⟨w.heap.size, 0, none⟩)) ∧ Drawing w w.heap.size a n c xs w' := by
  obtain ⟨hI, _, hx⟩ := h
  exact (l01From_any a n c xs w hI hx hn).mono fun e w' ⟨h1, h2, h3⟩ => ⟨h1, h2, hI.below h3, Nat.le_refl _, hx, hn, h3⟩

theorem next_dr (m : Int) (w0 : World) (g : Nat) (a : Option Addr) (n c : Nat) (xs : List Int) (w : World) (h : Drawing w0 g a n c xs w) (hm : m ≤ 9223372036854775807) :
    Calls Try.prog 50 #[.pointer (some ⟨g, 0, none⟩), .int .i64 m] w fun e w' => DPost m w0 g a n c xs w e w' := by
  obtain ⟨h1, h2, h3, h4, h5, h6⟩ := h
  refine (l01Next_any g a n c w0.heap.size xs m w h1 h2 h3 h4 h5 hm).mono ?_
  rintro e w' ⟨x, he, hx0, hx1, hs, hg⟩
  exact ⟨x, he, hx0, hx1, ⟨hs, h2.grown hg h3 h6.size, h3, h4, h5, by_below h6 hg h3 h6.size⟩, hg⟩

end Go.Proofs.Ytjfmpnkbocilpaa
