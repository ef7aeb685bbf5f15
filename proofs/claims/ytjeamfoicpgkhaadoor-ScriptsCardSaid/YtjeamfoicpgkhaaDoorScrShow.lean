/- Acts, shown: the program's answer. -/
import Derived.Test.YtjeamfoicpgkhaaDoorScrMay
import Derived.Test.YtjeamfoicpgkhaaDoorWriter
namespace Go.Proofs.YtjeamfoicpgkhaaDoor.ScrW
open Go.RowKit Go.Lib Go.Proofs.YtjeamfoicpgkhaaDoor.Mem Go.Proofs.YtjeamfoicpgkhaaDoor.Scr Go.Proofs.YtjeamfoicpgkhaaDoor.Read Go.Proofs.YtjeamfoicpgkhaaDoor.Build Go.Proofs.YtjeamfoicpgkhaaDoor.Env Go.Proofs.YtjeamfoicpgkhaaDoor.Writer Go.Proofs.YtjeamfoicpgkhaaDoor.Take
set_option linter.unusedVariables false
set_option linter.unusedSimpArgs false
theorem way_any (u : Bool) (w : World) : Calls Tryd.prog 26 #[.bool u] w fun e w' => e = .returned (.string ⟨#[if u then 117 else 100]⟩) ∧ w = w' := by
  cases u
  · go_enter Tryd.func26, Tryd.ntmps26
    go_wp2
    go_ret
    exact ⟨rfl, rfl⟩
  · go_enter Tryd.func26, Tryd.ntmps26
    go_wp2
    go_ret
    exact ⟨rfl, rfl⟩
def actCells (a : ActD) : List Value := [.int .i64 a.kind, .int .i64 a.client, .bool a.up, .int .i64 a.at_, .int .i64 a.n, .string a.text]
def actR : World → ActD → List Value → Prop := fun _ a cs => cs = actCells a ∧ a.text.size ≤ maxLen
abbrev ActS (w : World) (xs : List ActD) (v : Value) : Prop := SlR 6 actR w xs v
theorem acts_len {w : World} {xs : List ActD} {v : Value} (h : ActS w xs v) : ∃ A c, v = .slice A xs.length c ∧ xs.length ≤ c ∧ c ≤ maxLen := by
  obtain ⟨A, c, h1, h2, h3, _⟩ := h
  exact ⟨A, c, h1, h2, h3⟩
theorem acts_cells {w : World} {xs : List ActD} {A : Option Addr} {n c : Nat} (h : ActS w xs (.slice A n c)) (k : Nat) (hk : k < xs.length) :
    ∃ ad, A = some ad ∧ (xs[k]).text.size ≤ maxLen ∧ w.cell? (ad.add (k * 6)) = some (.int .i64 (xs[k]).kind) ∧ w.cell? ⟨(ad.add (k * 6)).block, (ad.add (k * 6)).off + 1, none⟩ = some (.int .i64 (xs[k]).client) ∧ w.cell? ⟨(ad.add (k * 6)).block, (ad.add (k * 6)).off + 2, none⟩ = some (.bool (xs[k]).up) ∧
      w.cell? ⟨(ad.add (k * 6)).block, (ad.add (k * 6)).off + 3, none⟩ = some (.int .i64 (xs[k]).at_) ∧ w.cell? ⟨(ad.add (k * 6)).block, (ad.add (k * 6)).off + 4, none⟩ = some (.int .i64 (xs[k]).n) ∧ w.cell? ⟨(ad.add (k * 6)).block, (ad.add (k * 6)).off + 5, none⟩ = some (.string (xs[k]).text) := by
  obtain ⟨A', c', he, _, _, h3⟩ := h
  injection he with he1 _ _
  subst he1
  obtain ⟨ad, cs, e, _, ⟨rfl, hz⟩, hc⟩ := h3 k hk
  have key : ∀ i u, (actCells xs[k])[i]? = some u → w.cell? ((ad.add (k * 6)).add i) = some u := fun i u hu => by rw [add_add]; exact hc i u hu
  exact ⟨ad, e, hz, hc 0 _ rfl, key 1 _ rfl, key 2 _ rfl, key 3 _ rfl, key 4 _ rfl, key 5 _ rfl⟩
theorem showAct_len {a : ActD} (h : actMay a = true) : (showAct a).length ≤ 400 := by
  obtain ⟨h1, h2, h3, h4, h5, h6, h7, h8, h9, _, _, _⟩ := may_facts h
  have l1 := itoa_le (n := a.client) ⟨by omega, by omega⟩
  have l2 := itoa_le (n := a.at_) ⟨by omega, by omega⟩
  have l3 := itoa_le (n := a.n) ⟨by omega, by omega⟩
  have hl : a.text.data.toList.length = a.text.size := Array.length_toList
  have l4 := itoa_le (n := (a.text.data.toList.length : Int)) ⟨by omega, by omega⟩
  unfold showAct
  simp only [List.length_cons, List.length_append, List.length_nil]
  have q1 : (if isEdit a.kind = true then 64 :: num a.at_ else if isMove a.kind = true then (if a.up = true then 117 else 100) :: num a.at_ else []).length ≤ 23 := by
    split
    · simp [num]; omega
    · split
      · simp [num]; omega
      · simp
  have q2 : (if (isEdit a.kind || isBreak a.kind) = true then num a.n ++ str a.text.data.toList else []).length ≤ 350 := by
    split
    · simp [num, str] at l4 ⊢; omega
    · simp
  omega
theorem showActs_len : ∀ (xs : List ActD), (∀ a ∈ xs, actMay a = true) → (showActs xs).length ≤ 400 * xs.length
  | [], _ => by simp [showActs]
  | a :: xs, h => by
    have h1 := showAct_len (h a (by simp))
    have h2 := showActs_len xs (fun b hb => h b (by simp [hb]))
    rw [showActs_cons, List.length_append, List.length_cons]
    omega
theorem ws_snap {ok : Nat → Prop} {w wr wa : World} {b : Nat} {l : List UInt8} (h : WS ok w wr b l) (ha : Step No wr wa) : WRep (fun k => (ok k ∨ w.heap.size ≤ k) ∧ k < wr.heap.size) wa b l :=
  (h.1.mono (ok' := fun k => (ok k ∨ w.heap.size ≤ k) ∧ k < wr.heap.size) (fun k hk o => ⟨o, hk⟩)).step ha (fun _ _ _ f => f)
theorem ws_write2 {ok : Nat → Prop} {w wr wa w' : World} {b : Nat} {l l' : List UInt8} {r : Value} {e : Ending} (h : WS ok w wr b l) (ha : Step No wr wa) (hp : WPost (fun k => (ok k ∨ w.heap.size ≤ k) ∧ k < wr.heap.size) wa b r l' e w') : e = .returned r ∧ WS ok w w' b l' :=
  ⟨hp.1, hp.2.1.mono (fun k _ o => o.elim (fun o => o.1) (fun o => .inr (Nat.le_trans h.2.size (Nat.le_trans ha.size o)))), (h.2.trans ha (fun _ f _ => f.elim)).trans hp.2.2 (fun i o hlt => o.1.elim id (fun o => absurd hlt (Nat.not_lt.2 o)))⟩
theorem int_blk {w : World} {g : Nat} {x : Int} {T : TypeId} (h : w.heap[g]? = some (.cells #[.int .i64 x] T (0, 0))) : SlR 1 intR w [x] (.slice (some ⟨g, 0, none⟩) 1 1) := by
  refine ⟨some ⟨g, 0, none⟩, 1, rfl, Nat.le_refl _, by simp [maxLen], fun j hj => ?_⟩
  obtain rfl : j = 0 := by simpa using hj
  refine ⟨⟨g, 0, none⟩, [.int .i64 x], rfl, rfl, rfl, fun i u hu => ?_⟩
  have hi : i = 0 := by
    have := (List.getElem?_eq_some_iff.1 hu).1
    simpa using this
  subst hi
  rw [show (⟨g, 0, none⟩ : Addr).add (0 * 1 + 0) = ⟨g, 0, none⟩ from rfl, blk_cell h]
  exact hu
end Go.Proofs.YtjeamfoicpgkhaaDoor.ScrW
