/- Acts, read from a text: the reference's answer. -/
import Derived.Test.YtjeamfoicpgkhaaDoorScrParse
import Derived.Test.YtjeamfoicpgkhaaDoorRefShow
import Derived.Test.YtjeamfoicpgkhaaDoorRefTaker2
import Derived.Test.YtjeamfoicpgkhaaDoorScrF
namespace Go.Proofs.YtjeamfoicpgkhaaDoor.ScrW
open Go.RowKit Go.Lib Go.Proofs.YtjeamfoicpgkhaaDoor.Mem Go.Proofs.YtjeamfoicpgkhaaDoor.Scr Go.Proofs.YtjeamfoicpgkhaaDoor.Read Go.Proofs.YtjeamfoicpgkhaaDoor.Take Go.Proofs.YtjeamfoicpgkhaaDoor.RefTaker
set_option linter.unusedVariables false
set_option linter.unusedSimpArgs false
/-- The kind that is found behind so many letters. -/
def pk (c : UInt8) : Nat → Int
  | 0 => -1
  | k + 1 => if letters.getD k 0 = c then (k : Int) else pk c k
theorem pk_idx (c : UInt8) : pk c 8 = idx c := by
  by_cases h0 : c = 101
  · subst h0; decide
  by_cases h1 : c = 116
  · subst h1; decide
  by_cases h2 : c = 100
  · subst h2; decide
  by_cases h3 : c = 108
  · subst h3; decide
  by_cases h4 : c = 99
  · subst h4; decide
  by_cases h5 : c = 98
  · subst h5; decide
  by_cases h6 : c = 120
  · subst h6; decide
  by_cases h7 : c = 106
  · subst h7; decide
  have n0 : (101 : UInt8) ≠ c := fun h => h0 h.symm
  have n1 : (116 : UInt8) ≠ c := fun h => h1 h.symm
  have n2 : (100 : UInt8) ≠ c := fun h => h2 h.symm
  have n3 : (108 : UInt8) ≠ c := fun h => h3 h.symm
  have n4 : (99 : UInt8) ≠ c := fun h => h4 h.symm
  have n5 : (98 : UInt8) ≠ c := fun h => h5 h.symm
  have n6 : (120 : UInt8) ≠ c := fun h => h6 h.symm
  have n7 : (106 : UInt8) ≠ c := fun h => h7 h.symm
  simp [pk, idx, letters, List.findIdx?_cons, n0, n1, n2, n3, n4, n5, n6, n7]
theorem letter_at (k : Nat) (hk : k < 8) : (({ data := #[101, 116, 100, 108, 99, 98, 120, 106] } : ByteArray)[k]'(show k < 8 from hk)) = letters.getD k 0 := by
  rcases (by omega : k = 0 ∨ k = 1 ∨ k = 2 ∨ k = 3 ∨ k = 4 ∨ k = 5 ∨ k = 6 ∨ k = 7) with e | e | e | e | e | e | e | e <;> subst e <;> rfl
/-- The act under way in block g; the taker in b. -/
def AF (S : ByteArray) (w0 : World) (b g : Nat) (cs : Array Value) (p : SF) (wr : World) : Prop :=
  wr.heap[g]? = some (.cells cs TA (0, 0)) ∧ FRep S wr b p ∧ Step (fun k => k = b) w0 wr ∧ b < w0.heap.size ∧ w0.heap.size ≤ g
theorem AF.take {S : ByteArray} {w0 wr w' : World} {b g : Nat} {cs : Array Value} {p p' : SF} {v : Value} {e : Ending} (h : AF S w0 b g cs p wr) (hp : FPost S wr b v p' e w') : e = .returned v ∧ AF S w0 b g cs p' w' := by
  obtain ⟨h1, h2, h3, h4, h5⟩ := h
  exact ⟨hp.1, hp.2.2.blk h1 (fun e => by omega), hp.2.1, h3.trans hp.2.2 (fun _ f _ => f), h4, h5⟩
theorem AF.set {S : ByteArray} {w0 wr : World} {b g : Nat} {cs : Array Value} {p : SF} (h : AF S w0 b g cs p wr) (i : Nat) (u : Value) : AF S w0 b g (cs.setIfInBounds i u) p (wr.setCell ⟨g, i, none⟩ u) := by
  obtain ⟨h1, h2, h3, h4, h5⟩ := h
  exact ⟨blk_set h1 i u, blk_set_other h2 (fun e => by simp only at e; omega) u, h3.setCell (fun e => by simp only at e; omega) u, h4, h5⟩
theorem AF.move {S : ByteArray} {w0 wr : World} {b g q : Nat} {x : Bool} {cs : Array Value} (h : AF S w0 b g cs (q, x) wr) (r : Nat) : AF S w0 b g cs (r, x) (wr.setCell ⟨b, 1, none⟩ (.int .i64 (r : Int))) := by
  obtain ⟨h1, h2, h3, h4, h5⟩ := h
  refine ⟨blk_set_other h1 (fun e => by simp only at e; omega) _, ?_, h3.setCell (fun e => rfl) _, h4, h5⟩
  have := blk_set h2 1 (.int .i64 (r : Int))
  simpa [FRep] using this
theorem AF.drewN {S : ByteArray} {w0 wr : World} {b g : Nat} {cs : Array Value} {p : SF} (h : AF S w0 b g cs p wr) (n : Nat) : AF S w0 b g cs p (wr.drewN n) := ⟨h.1, h.2.1, h.2.2.1.drewN n, h.2.2.2⟩
theorem AF.six {S : ByteArray} {w0 wr : World} {b g q : Nat} {x : Bool} {v0 v1 v2 v3 v4 v5 : Value} (h : AF S w0 b g #[v0, v1, v2, v3, v4, v5] (q, x) wr) :
    (wr.cell? ⟨g, 0, none⟩ = some v0 ∧ wr.cell? ⟨g, 1, none⟩ = some v1 ∧ wr.cell? ⟨g, 2, none⟩ = some v2 ∧ wr.cell? ⟨g, 3, none⟩ = some v3 ∧ wr.cell? ⟨g, 4, none⟩ = some v4 ∧ wr.cell? ⟨g, 5, none⟩ = some v5) ∧
    (wr.frozen? ⟨g, 0, none⟩ = false ∧ wr.frozen? ⟨g, 1, none⟩ = false ∧ wr.frozen? ⟨g, 2, none⟩ = false ∧ wr.frozen? ⟨g, 3, none⟩ = false ∧ wr.frozen? ⟨g, 4, none⟩ = false ∧ wr.frozen? ⟨g, 5, none⟩ = false) ∧
    wr.cell? ⟨b, 0, none⟩ = some (.string S) ∧ wr.cell? ⟨b, 1, none⟩ = some (.int .i64 (q : Int)) ∧ wr.cell? ⟨b, 2, none⟩ = some (.bool x) ∧ wr.frozen? ⟨b, 1, none⟩ = false ∧ wr.frozen? ⟨b, 2, none⟩ = false := by
  obtain ⟨h1, h2, -⟩ := h
  exact ⟨⟨blk_cell h1 0, blk_cell h1 1, blk_cell h1 2, blk_cell h1 3, blk_cell h1 4, blk_cell h1 5⟩, ⟨blk_free h1 0, blk_free h1 1, blk_free h1 2, blk_free h1 3, blk_free h1 4, blk_free h1 5⟩, f_cells h2⟩
/-- Where the reading stands. -/
def PF (S : ByteArray) (w : World) (b : Nat) (v : Value) (out : List ActD) (p : SF) (wr : World) : Prop :=
  wr.ownsRow 0 TA 6 v out.length (out.flatMap actCells) ∧ (∀ k, v.ownBlock = some k → w.heap.size ≤ k) ∧ (∀ a ∈ out, a.text.size ≤ maxLen) ∧ FRep S wr b p ∧ InvF S.data.toList p out ∧ Step No w wr ∧ w.heap.size ≤ b ∧ out.length ≤ 1025 ∧ p.1 ≤ 281474976710000
theorem PF.acts {S : ByteArray} {w wr : World} {b : Nat} {v : Value} {out : List ActD} {p : SF} (h : PF S w b v out p wr) : ActS wr out v :=
  SlR.ofRow (by decide) h.1 (fun a _ => rfl) (fun a ha => ⟨rfl, h.2.2.1 a ha⟩)
theorem PF.row {S : ByteArray} {w wr w1 : World} {b : Nat} {v : Value} {out : List ActD} {p : SF} (h : PF S w b v out p wr) (h2 : Step (fun k => k = b) wr w1) : w1.ownsRow 0 TA 6 v out.length (out.flatMap actCells) :=
  row_step h.1 h2 (fun k hk e => row_ne h.1 h.2.2.2.1 (by decide) (by rw [hk, e]))
theorem PF.turn {S : ByteArray} {w wr w1 w2 : World} {b : Nat} {v v1 : Value} {out : List ActD} {p p' : SF} {a : ActD} (h : PF S w b v out p wr) (hlt : p.1 + 1 < S.size) (hlen : out.length ≤ 1024) (ha : actF S.data.toList p = (a, p')) (ht : a.text.size ≤ maxLen) (hp' : p'.1 ≤ 281474976710000)
    (h1 : FRep S w1 b p') (h2 : Step (fun k => k = b) wr w1) (ho : w2.ownsRow 0 TA 6 v1 (out.length + 1) (out.flatMap actCells ++ actCells a)) (cs : Array Value)
    (hg : (w1.alloc (.cells cs TA)).grownBy w2 v.ownBlock) (hat : v1.ownBlock = v.ownBlock ∨ v1.ownBlock = some (w1.alloc (.cells cs TA)).heap.size) :
    PF S w b v1 (out ++ [a]) p' w2 := by
  obtain ⟨p1, p2, p3, p4, p5, p6, p7, p8, p9⟩ := h
  have hb : v.ownBlock ≠ some b := row_ne p1 p4 (by decide)
  have hs : Step No w w1 := p6.trans h2 (fun i e hlt => by omega)
  have hs2 : Step No w (w1.alloc (.cells cs TA)) := hs.alloc _
  have hw : Step No w w2 := hs2.grown hg (fun k hk hlt => absurd (p2 k hk) (by omega))
  have hi := invF_step p5 (by rw [Array.length_toList]; exact hlt)
  rw [ha] at hi
  refine ⟨?_, ?_, ?_, ?_, hi, hw, p7, ?_, hp'⟩
  · rw [flat_snoc, List.length_append]
    exact ho
  · intro k hk
    rcases hat with hat | hat
    · exact p2 k (by rw [← hat, hk])
    · rw [hk] at hat
      injection hat with hat
      rw [hat]
      exact hs2.size
  · intro a' ha'
    rcases List.mem_append.1 ha' with ha' | ha'
    · exact p3 a' ha'
    · rw [List.mem_singleton] at ha'
      subst ha'
      exact ht
  · have hlt : b < (w1.alloc (.cells cs TA)).heap.size := blk_lt (blk_alloc h1 (.cells cs TA))
    exact (hg.block b hlt (fun e => hb e.symm)).trans (blk_alloc h1 _)
  · rw [List.length_append, List.length_singleton]; omega
def EndedF (S : ByteArray) (out : List ActD) (p : SF) : Prop := ¬ p.1 + 1 < S.data.toList.length ∨ p.2 = true ∨ 1024 < out.length
theorem parseF_bad {w wr w1 : World} {S U : ByteArray} {v : Value} {out : List ActD} {p : SF} {ee : Int} {b : Nat} (h : PF S w b v out p wr) (he : EndedF S out p) (hU : showS out = (U, ee)) (hx : p.2 = true ∨ ee ≠ 0 ∨ U ≠ S) (hs : Step No wr w1) :
    ParsePost w S (.returned (.tuple #[.slice none 0 0, .int .i64 2300])) w1 := by
  have hr := readsF_end h.2.2.2.2.1 he
  rw [hU, if_pos hx] at hr
  exact ⟨_, [], 2300, rfl, hr, World.ownsRow_nil _ _ _ _, fun k hk => by simp [Value.ownBlock] at hk, fun a ha => by simp at ha, h.2.2.2.2.2.1.trans hs (fun _ f _ => f)⟩
theorem parseF_good {w wr w1 : World} {S : ByteArray} {v : Value} {out : List ActD} {p : SF} {b : Nat} (h : PF S w b v out p wr) (he : EndedF S out p) (hU : showS out = (S, 0)) (hx : p.2 = false) (hs : Step No wr w1) :
    ParsePost w S (.returned (.tuple #[v, .int .i64 0])) w1 := by
  have hr := readsF_end h.2.2.2.2.1 he
  rw [hU, if_neg (by simp [hx])] at hr
  exact ⟨_, out, 0, rfl, hr, row_step h.1 hs (fun _ _ f => f), h.2.1, h.2.2.1, h.2.2.2.2.2.1.trans hs (fun _ f _ => f)⟩
end Go.Proofs.YtjeamfoicpgkhaaDoor.ScrW
