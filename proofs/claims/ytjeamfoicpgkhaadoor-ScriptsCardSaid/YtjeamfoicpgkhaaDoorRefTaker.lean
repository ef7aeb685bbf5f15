/- The reference's taker of packed texts. -/
import Derived.Test.YtjeamfoicpgkhaaDoorRefDec
import Derived.IntWalk
namespace Go.Proofs.YtjeamfoicpgkhaaDoor.RefTaker
open Go.RowKit Go.Lib Go.Proofs.YtjeamfoicpgkhaaDoor.Mem Go.Proofs.YtjeamfoicpgkhaaDoor.Dec Go.Proofs.YtjeamfoicpgkhaaDoor.Take
set_option linter.unusedVariables false
set_option linter.unusedSimpArgs false
abbrev TF : TypeId := 69
def FRep (S : ByteArray) (w : World) (b : Nat) (p : SF) : Prop := w.heap[b]? = some (.cells #[.string S, .int .i64 (p.1 : Int), .bool p.2] TF (0, 0))
def FPost (S : ByteArray) (w : World) (b : Nat) (v : Value) (p : SF) (e : Ending) (w' : World) : Prop := e = .returned v ∧ FRep S w' b p ∧ Step (fun k => k = b) w w'
theorem f_cells {S : ByteArray} {w : World} {b q : Nat} {x : Bool} (h : w.heap[b]? = some (.cells #[.string S, .int .i64 (q : Int), .bool x] TF (0, 0))) :
    w.cell? ⟨b, 0, none⟩ = some (.string S) ∧ w.cell? ⟨b, 1, none⟩ = some (.int .i64 (q : Int)) ∧ w.cell? ⟨b, 2, none⟩ = some (.bool x) ∧ w.frozen? ⟨b, 1, none⟩ = false ∧ w.frozen? ⟨b, 2, none⟩ = false :=
  ⟨blk_cell h 0, blk_cell h 1, blk_cell h 2, blk_free h 1, blk_free h 2⟩
/-- How many digits stand ahead: found out one by one. -/
theorem digs_is : ∀ (n k : Nat) (l : List UInt8), k ≤ n → k ≤ l.length → (∀ i, i < k → isDig (l.getD i 0) = true) → (k = n ∨ k = l.length ∨ isDig (l.getD k 0) = false) → digs n l = k
  | 0, k, l, hk, _, _, _ => by obtain rfl : k = 0 := by omega
                               rfl
  | n + 1, k, [], hk, hl, _, _ => by
    obtain rfl : k = 0 := by simpa using hl
    rfl
  | n + 1, 0, b :: l, hk, hl, h1, h2 => by
    have hb : isDig b = false := by
      rcases h2 with h2 | h2 | h2
      · omega
      · simp at h2
      · simpa using h2
    simp [digs, hb]
  | n + 1, k + 1, b :: l, hk, hl, h1, h2 => by
    have hb : isDig b = true := by simpa using h1 0 (by omega)
    simp only [digs, hb, if_true]
    rw [digs_is n k l (by omega) (by simpa using hl) (fun i hi => by simpa using h1 (i + 1) (by omega)) (by
      rcases h2 with h2 | h2 | h2
      · left; omega
      · right; left; simpa using h2
      · right; right; simpa using h2)]
/-- The number that so many digits from a place on are. -/
def val (l : List UInt8) (p k : Nat) : Int := Take.valOf ((l.drop p).take k)
theorem val_next (l : List UInt8) (p k : Nat) (h : p + k < l.length) : val l p (k + 1) = 10 * val l p k + (((l.getD (p + k) 0).toNat : Int) - 48) := by
  unfold val
  have h1 : k < (l.drop p).length := by rw [List.length_drop]; omega
  rw [List.take_succ_eq_append_getElem h1, Take.valOf_append, List.getElem_drop]
  rw [List.getD_eq_getElem?_getD, List.getElem?_eq_getElem h]
  rfl
theorem val_le (l : List UInt8) (p : Nat) : ∀ k, p + k ≤ l.length → (∀ i, i < k → isDig (l.getD (p + i) 0) = true) → 0 ≤ val l p k ∧ val l p k < 10 ^ k
  | 0, _, _ => by simp [val, Take.valOf]
  | k + 1, h, hd => by
    obtain ⟨h1, h2⟩ := val_le l p k (by omega) (fun i hi => hd i (by omega))
    have h3 := hd k (by omega)
    unfold isDig at h3
    simp only [Bool.and_eq_true, decide_eq_true_eq] at h3
    rw [val_next l p k (by omega)]
    have h4 : (10 : Int) ^ (k + 1) = 10 * 10 ^ k := by rw [Int.pow_succ]; omega
    rw [h4]
    generalize (10 : Int) ^ k = t at *
    omega
theorem val_small {l : List UInt8} {p k : Nat} (h : p + k ≤ l.length) (hd : ∀ i, i < k → isDig (l.getD (p + i) 0) = true) (hk : k ≤ 8) : 0 ≤ val l p k ∧ val l p k ≤ 99999999 := by
  obtain ⟨h1, h2⟩ := val_le l p k h hd
  refine ⟨h1, ?_⟩
  have : (10 : Int) ^ k ≤ 10 ^ 8 := by
    rcases (by omega : k = 0 ∨ k = 1 ∨ k = 2 ∨ k = 3 ∨ k = 4 ∨ k = 5 ∨ k = 6 ∨ k = 7 ∨ k = 8) with rfl | rfl | rfl | rfl | rfl | rfl | rfl | rfl | rfl <;> decide
  have h8 : (10 : Int) ^ 8 = 100000000 := by decide
  omega
/-- What the digits come to, once it is known how many there are. -/
theorem digF_of (e : UInt8) (l : List UInt8) (p k : Nat) (x : Bool) (hk : k ≤ 9) (hl : p + k ≤ l.length ∨ k = 0) (hd : ∀ i, i < k → isDig (l.getD (p + i) 0) = true) (he : k = 9 ∨ l.length ≤ p + k ∨ isDig (l.getD (p + k) 0) = false) :
    digF e l (p, x) = if k = 0 ∨ l[p + k]? ≠ some e then (0, p + k, true) else (val l p k, p + k + 1, x) := by
  have hg : ∀ i, (l.drop p).getD i 0 = l.getD (p + i) 0 := fun i => by rw [List.getD_eq_getElem?_getD, List.getD_eq_getElem?_getD, List.getElem?_drop]
  have hdl : digs 9 (l.drop p) = k := digs_is 9 k (l.drop p) hk (by rw [List.length_drop]; omega) (fun i hi => by rw [hg]; exact hd i hi) (by
    rcases he with he | he | he
    · exact .inl he
    · right; left; rw [List.length_drop]; omega
    · right; right; rw [hg]; exact he)
  unfold digF
  simp only [hdl]
  rfl
/-- Where the digits' loop stands. -/
def DS (S : ByteArray) (w : World) (b p : Nat) (x : Bool) (k q : Nat) (wr : World) : Prop :=
  q = p + k ∧ k ≤ 9 ∧ (p + k ≤ S.size ∨ k = 0) ∧ (∀ i, i < k → isDig (S.data.toList.getD (p + i) 0) = true) ∧ wr.heap[b]? = some (.cells #[.string S, .int .i64 (q : Int), .bool x] TF (0, 0)) ∧ Step (fun k => k = b) w wr
theorem DS.out {S : ByteArray} {w wr : World} {b p k q : Nat} {x : Bool} (h : DS S w b p x k q wr) (e : UInt8) (he : k = 9 ∨ S.size ≤ q ∨ isDig (S.data.toList.getD q 0) = false) :
    digF e S.data.toList (p, x) = if k = 0 ∨ S.data.toList[q]? ≠ some e then (0, q, true) else (val S.data.toList p k, q + 1, x) := by
  obtain ⟨rfl, h1, h2, h3, -⟩ := h
  have hl : S.data.toList.length = S.size := Array.length_toList
  exact digF_of e _ p k x h1 (by rw [hl]; exact h2) h3 (by rw [hl]; exact he)
theorem DS.next {S : ByteArray} {w wr : World} {b p k q : Nat} {x : Bool} (h : DS S w b p x k q wr) (hq : q < S.size) (hk : k < 9) (hd : isDig (S.data.toList.getD q 0) = true) (n : Nat) : DS S w b p x (k + 1) (q + 1) ((wr.drewN n).setCell ⟨b, 1, none⟩ (.int .i64 ((q : Int) + 1))) := by
  obtain ⟨rfl, h1, h2, h3, h4, h5⟩ := h
  refine ⟨by omega, by omega, .inl (by omega), fun i hi => ?_, ?_, (h5.drewN n).setCell (fun _ => rfl) _⟩
  · rcases Nat.lt_succ_iff_lt_or_eq.1 hi with hi | rfl
    · exact h3 i hi
    · exact hd
  · have := blk_set (w := wr.drewN n) h4 1 (.int .i64 (((p + k : Nat) : Int) + 1))
    simpa using this
theorem f_bad {S : ByteArray} {w W : World} {b q : Nat} {x : Bool} {r : Int × SF} (hr : r = (0, q, true)) (hb : W.heap[b]? = some (.cells #[.string S, .int .i64 (q : Int), .bool x] TF (0, 0))) (hs : Step (fun k => k = b) w W) :
    FPost S w b (.int .i64 r.1) r.2 (.returned (.int .i64 0)) (W.setCell ⟨b, 2, none⟩ (.bool true)) := by
  subst hr
  exact ⟨rfl, by have := blk_set hb 2 (.bool true); simpa [FRep] using this, hs.setCell (fun _ => rfl) _⟩
theorem f_good {S : ByteArray} {w W : World} {b q : Nat} {x : Bool} {v : Int} {r : Int × SF} (hr : r = (v, q + 1, x)) (hb : W.heap[b]? = some (.cells #[.string S, .int .i64 (q : Int), .bool x] TF (0, 0))) (hs : Step (fun k => k = b) w W) :
    FPost S w b (.int .i64 r.1) r.2 (.returned (.int .i64 v)) (W.setCell ⟨b, 1, none⟩ (.int .i64 ((q : Int) + 1))) := by
  subst hr
  exact ⟨rfl, by have := blk_set hb 1 (.int .i64 ((q : Int) + 1)); simpa [FRep] using this, hs.setCell (fun _ => rfl) _⟩
theorem DS.start {S : ByteArray} {w : World} {b p : Nat} {x : Bool} (h : w.heap[b]? = some (.cells #[.string S, .int .i64 (p : Int), .bool x] TF (0, 0))) (n : Nat) : DS S w b p x 0 p (w.drewN n) :=
  ⟨rfl, by omega, .inr rfl, fun i hi => by omega, h, (Step.refl _ _).drewN _⟩
theorem DS.blk {S : ByteArray} {w wr : World} {b p k q : Nat} {x : Bool} (h : DS S w b p x k q wr) : wr.heap[b]? = some (.cells #[.string S, .int .i64 (q : Int), .bool x] TF (0, 0)) := h.2.2.2.2.1
theorem DS.step {S : ByteArray} {w wr : World} {b p k q : Nat} {x : Bool} (h : DS S w b p x k q wr) : Step (fun k => k = b) w wr := h.2.2.2.2.2
theorem DS.none {S : ByteArray} {w wr : World} {b p k q : Nat} {x : Bool} (h : DS S w b p x k q wr) (e : UInt8) (he : k = 9 ∨ S.size ≤ q ∨ isDig (S.data.toList.getD q 0) = false) (hb : k = 0 ∨ S.size ≤ q ∨ S.data.toList.getD q 0 ≠ e) :
    digF e S.data.toList (p, x) = (0, q, true) := by
  rw [h.out e he, if_pos]
  rcases hb with hb | hb | hb
  · exact .inl hb
  · right
    rw [List.getElem?_eq_none (by rw [Array.length_toList]; exact hb)]
    simp
  · right
    intro h2
    apply hb
    rw [List.getD_eq_getElem?_getD, h2]
    rfl
theorem DS.some {S : ByteArray} {w wr : World} {b p k q : Nat} {x : Bool} (h : DS S w b p x k q wr) (e : UInt8) (he : k = 9 ∨ S.size ≤ q ∨ isDig (S.data.toList.getD q 0) = false) (hk : k ≠ 0) (hq : q < S.size) (hb : S.data.toList.getD q 0 = e) :
    digF e S.data.toList (p, x) = (val S.data.toList p k, q + 1, x) := by
  rw [h.out e he, if_neg]
  rintro (h2 | h2)
  · exact hk h2
  · apply h2
    rw [List.getElem?_eq_getElem (by rw [Array.length_toList]; exact hq)]
    rw [List.getD_eq_getElem?_getD, List.getElem?_eq_getElem (by rw [Array.length_toList]; exact hq)] at hb
    exact congrArg Option.some hb
theorem byte_at (S : ByteArray) (q : Nat) (h : q < S.size) : S.data.toList.getD q 0 = S[q]'h := by
  rw [List.getD_eq_getElem?_getD, List.getElem?_eq_getElem (by rw [Array.length_toList]; exact h)]
  rfl
set_option maxHeartbeats 8000000 in
set_option maxRecDepth 100000 in
theorem digits_any (S : ByteArray) (hS : S.size ≤ 140737488355328) (w : World) (b p : Nat) (x : Bool) (e : UInt8) (h : FRep S w b (p, x)) (hp : p ≤ 281474976710656) :
    Calls Tryd.prog 42 #[.pointer (some ⟨b, 0, none⟩), .int .u8 e.toNat] w (FPost S w b (.int .i64 (digF e S.data.toList (p, x)).1) (digF e S.data.toList (p, x)).2) := by
  have h' : w.heap[b]? = some (.cells #[.string S, .int .i64 (p : Int), .bool x] TF (0, 0)) := h
  obtain ⟨c0, c1, c2, f1, f2⟩ := f_cells h'
  have HB := Lib.hid h'
  clear h h'
  go_enter Tryd.func42, Tryd.ntmps42
  go_wp2
  go_quiet (fail)
  go_wp2
  go_loopw [5] (fun v wr => ∃ k q : Nat, v = .int .i64 (val S.data.toList p k) ∧ DS S w b p x k q wr) (fun _ wr => match wr.cell? ⟨b, 1, none⟩ with | some (.int _ n) => S.size - n.toNat | _ => 0)
  case atStart => exact ⟨0, p, by simp [val, Take.valOf], DS.start HB.out _⟩
  case round =>
    obtain ⟨k, q, rfl, hd⟩ := hrel
    clear c0 c1 c2 f1 f2
    obtain ⟨c0, c1, c2, f1, f2⟩ := f_cells hd.blk
    have hq0 : (0 : Int) ≤ q := by omega
    have hqp : (q : Int) = p + k := by have := hd.1; omega
    have hqs : (q : Int) ≤ 281474976710672 := by have := hd.1; have := hd.2.1; omega
    have hk9 := hd.2.1
    have hpk := hd.2.2.1
    have HD := Lib.hid hd
    clear hd
    by_cases hq : q < S.size
    · have t1 : decide ((q : Int) < S.size) = true := decide_eq_true (by omega)
      have t1n : decide (q < S.size) = true := decide_eq_true hq
      have t2 : decide ((S.size : Int) ≤ q) = false := decide_eq_false (by omega)
      have t2n : decide (S.size ≤ q) = false := decide_eq_false (by omega)
      have hq1 : (q : Int) < S.size := by omega
      obtain ⟨c, hc, hcS⟩ : ∃ c : UInt8, S[q]'hq = c ∧ Hid (S.data.toList.getD q 0 = c) := ⟨_, rfl, Lib.hid (byte_at S q hq)⟩
      have hc8 : (c.toNat : Int) ≤ 255 := by have := c.toNat_lt; omega
      by_cases hk : k = 9
      · have t4 : decide ((q : Int) - p < 9) = false := decide_eq_false (by omega)
        have HE : Hid (k = 9 ∨ S.size ≤ q ∨ isDig (S.data.toList.getD q 0) = false) := Lib.hid (.inl hk)
        have t3 : ((q : Int) == p) = false := beq_eq_false_iff_ne.2 (by omega)
        have t3n : (q == p) = false := beq_eq_false_iff_ne.2 (by omega)
        have HK : Hid (k ≠ 0) := Lib.hid (by omega)
        clear hqp hk9 hpk hk
        by_cases hce : c = e
        · have hec : e = c := hce.symm
          clear hce
          subst hec
          have t7 : ((e.toNat : Int) != e.toNat) = false := bne_self_eq_false _
          have t7n : (e.toNat != e.toNat) = false := bne_self_eq_false _
          have HR := Lib.hid (HD.out.some e HE.out HK.out hq hcS.out)
          go_wp2
          go_quiet (fail)
          go_wp2
          go_quiet (fail)
          go_wp2
          go_ret
          exact f_good HR.out HD.out.blk (HD.out.step.drewN _)
        · have t7 : ((c.toNat : Int) != e.toNat) = true := by rw [bne_iff_ne]; intro h; exact hce (UInt8.toNat_inj.1 (by omega))
          have t7n : (c.toNat != e.toNat) = true := by rw [bne_iff_ne]; intro h; exact hce (UInt8.toNat_inj.1 h)
          have HCE := Lib.hid hce
          clear hce
          have HR := Lib.hid (HD.out.none e HE.out (.inr (.inr (by rw [hcS.out]; exact HCE.out))))
          go_wp2
          go_quiet (fail)
          go_wp2
          go_quiet (fail)
          go_wp2
          go_ret
          exact f_bad HR.out HD.out.blk (HD.out.step.drewN _)
      · have t4 : decide ((q : Int) - p < 9) = true := decide_eq_true (by omega)
        by_cases hlo : (c.toNat : Int) < 48
        · have HE : Hid (k = 9 ∨ S.size ≤ q ∨ isDig (S.data.toList.getD q 0) = false) := Lib.hid (.inr (.inr (by rw [hcS.out]; unfold isDig; rw [decide_eq_false (by omega)]; rfl)))
          have t5 : decide ((48 : Int) ≤ c.toNat) = false := decide_eq_false (by omega)
          by_cases hk0 : k = 0
          · have hk2 : q = p := by omega
            have t3 : ((q : Int) == p) = true := beq_iff_eq.2 (by omega)
            have t3n : (q == p) = true := beq_iff_eq.2 hk2
            clear hqp hk9 hpk hk
            subst hk2
            have HR := Lib.hid (HD.out.none e HE.out (.inl hk0))
            go_wp2
            go_quiet (fail)
            go_wp2
            go_quiet (fail)
            go_wp2
            go_ret
            exact f_bad HR.out HD.out.blk (HD.out.step.drewN _)
          · have t3 : ((q : Int) == p) = false := beq_eq_false_iff_ne.2 (by omega)
            have t3n : (q == p) = false := beq_eq_false_iff_ne.2 (by omega)
            have HK : Hid (k ≠ 0) := Lib.hid hk0
            clear hqp hk9 hpk hk hk0
            by_cases hce : c = e
            · have hec : e = c := hce.symm
              clear hce
              subst hec
              have t7 : ((e.toNat : Int) != e.toNat) = false := bne_self_eq_false _
              have t7n : (e.toNat != e.toNat) = false := bne_self_eq_false _
              have HR := Lib.hid (HD.out.some e HE.out HK.out hq hcS.out)
              go_wp2
              go_quiet (fail)
              go_wp2
              go_quiet (fail)
              go_wp2
              go_ret
              exact f_good HR.out HD.out.blk (HD.out.step.drewN _)
            · have t7 : ((c.toNat : Int) != e.toNat) = true := by rw [bne_iff_ne]; intro h; exact hce (UInt8.toNat_inj.1 (by omega))
              have t7n : (c.toNat != e.toNat) = true := by rw [bne_iff_ne]; intro h; exact hce (UInt8.toNat_inj.1 h)
              have HCE := Lib.hid hce
              clear hce
              have HR := Lib.hid (HD.out.none e HE.out (.inr (.inr (by rw [hcS.out]; exact HCE.out))))
              go_wp2
              go_quiet (fail)
              go_wp2
              go_quiet (fail)
              go_wp2
              go_ret
              exact f_bad HR.out HD.out.blk (HD.out.step.drewN _)
        · by_cases hhi : (57 : Int) < c.toNat
          · have HE : Hid (k = 9 ∨ S.size ≤ q ∨ isDig (S.data.toList.getD q 0) = false) := Lib.hid (.inr (.inr (by rw [hcS.out]; unfold isDig; rw [decide_eq_false (show ¬ c.toNat ≤ 57 by omega), Bool.and_false])))
            have t5 : decide ((48 : Int) ≤ c.toNat) = true := decide_eq_true (by omega)
            have t6 : decide ((c.toNat : Int) ≤ 57) = false := decide_eq_false (by omega)
            by_cases hk0 : k = 0
            · have hk2 : q = p := by omega
              have t3 : ((q : Int) == p) = true := beq_iff_eq.2 (by omega)
              have t3n : (q == p) = true := beq_iff_eq.2 hk2
              clear hqp hk9 hpk hk
              subst hk2
              have HR := Lib.hid (HD.out.none e HE.out (.inl hk0))
              go_wp2
              go_quiet (fail)
              go_wp2
              go_quiet (fail)
              go_wp2
              go_ret
              exact f_bad HR.out HD.out.blk (HD.out.step.drewN _)
            · have t3 : ((q : Int) == p) = false := beq_eq_false_iff_ne.2 (by omega)
              have t3n : (q == p) = false := beq_eq_false_iff_ne.2 (by omega)
              have HK : Hid (k ≠ 0) := Lib.hid hk0
              clear hqp hk9 hpk hk hk0
              by_cases hce : c = e
              · have hec : e = c := hce.symm
                clear hce
                subst hec
                have t7 : ((e.toNat : Int) != e.toNat) = false := bne_self_eq_false _
                have t7n : (e.toNat != e.toNat) = false := bne_self_eq_false _
                have HR := Lib.hid (HD.out.some e HE.out HK.out hq hcS.out)
                go_wp2
                go_quiet (fail)
                go_wp2
                go_quiet (fail)
                go_wp2
                go_ret
                exact f_good HR.out HD.out.blk (HD.out.step.drewN _)
              · have t7 : ((c.toNat : Int) != e.toNat) = true := by rw [bne_iff_ne]; intro h; exact hce (UInt8.toNat_inj.1 (by omega))
                have t7n : (c.toNat != e.toNat) = true := by rw [bne_iff_ne]; intro h; exact hce (UInt8.toNat_inj.1 h)
                have HCE := Lib.hid hce
                clear hce
                have HR := Lib.hid (HD.out.none e HE.out (.inr (.inr (by rw [hcS.out]; exact HCE.out))))
                go_wp2
                go_quiet (fail)
                go_wp2
                go_quiet (fail)
                go_wp2
                go_ret
                exact f_bad HR.out HD.out.blk (HD.out.step.drewN _)
          · have t5 : decide ((48 : Int) ≤ c.toNat) = true := decide_eq_true (by omega)
            have t6 : decide ((c.toNat : Int) ≤ 57) = true := decide_eq_true (by omega)
            have hc48 : (48 : Int) ≤ c.toNat := by omega
            have hc57 : (c.toNat : Int) ≤ 57 := by omega
            have hv := val_small (l := S.data.toList) (p := p) (k := k) (by rw [Array.length_toList]; show p + k ≤ S.size; omega) HD.out.2.2.2.1 (by omega)
            have HV : Hid (val S.data.toList p (k + 1) = 10 * val S.data.toList p k + ((c.toNat : Int) - 48)) := Lib.hid (by rw [val_next _ _ _ (by rw [Array.length_toList]; show p + k < S.size; omega), show p + k = q by omega, hcS.out])
            have HN : Hid (∀ n, DS S w b p x (k + 1) (q + 1) ((wr.drewN n).setCell ⟨b, 1, none⟩ (.int .i64 ((q : Int) + 1)))) := Lib.hid (fun n => HD.out.next hq (by omega) (by rw [hcS.out]; unfold isDig; rw [decide_eq_true (show 48 ≤ c.toNat by omega), decide_eq_true (show c.toNat ≤ 57 by omega)]; rfl) n)
            generalize hval : val S.data.toList p k = X at *
            have hX0 : 0 ≤ X := hv.1
            have hX1 : X ≤ 99999999 := hv.2
            clear hv hqp hk9 hpk hval hlo hhi hk
            go_wp2
            go_quiet (fail)
            go_wp2
            go_quiet (fail)
            go_wp2
            go_roundw
            case rel => exact ⟨k + 1, q + 1, by rw [HV.out], HN.out _⟩
            case measure =>
              rw [World.cell?_setCell_same (h := (show (wr.drewN _).cell? ⟨b, 1, none⟩ = _ from c1))]
              simp only [c1]
              omega
    · have HE : Hid (k = 9 ∨ S.size ≤ q ∨ isDig (S.data.toList.getD q 0) = false) := Lib.hid (.inr (.inl (by omega)))
      have t1 : decide ((q : Int) < S.size) = false := decide_eq_false (by omega)
      have t2 : decide ((S.size : Int) ≤ q) = true := decide_eq_true (by omega)
      have t1n : decide (q < S.size) = false := decide_eq_false hq
      have t2n : decide (S.size ≤ q) = true := decide_eq_true (by omega)
      have hq2 : S.size ≤ q := by omega
      by_cases hk : k = 0
      · have hk2 : q = p := by omega
        have t3 : ((q : Int) == p) = true := beq_iff_eq.2 (by omega)
        have t3n : (q == p) = true := beq_iff_eq.2 hk2
        clear hqp hk9 hpk hq
        subst hk2
        have HR := Lib.hid (HD.out.none e HE.out (.inl hk))
        go_wp2
        go_quiet (fail)
        go_wp2
        go_quiet (fail)
        go_wp2
        go_ret
        exact f_bad HR.out HD.out.blk (HD.out.step.drewN _)
      · have t3 : ((q : Int) == p) = false := beq_eq_false_iff_ne.2 (by omega)
        have t3n : (q == p) = false := beq_eq_false_iff_ne.2 (by omega)
        clear hqp hk9 hpk hq
        have HR := Lib.hid (HD.out.none e HE.out (.inr (.inl hq2)))
        go_wp2
        go_quiet (fail)
        go_wp2
        go_quiet (fail)
        go_wp2
        go_ret
        exact f_bad HR.out HD.out.blk (HD.out.step.drewN _)
theorem digF_pos (e : UInt8) (l : List UInt8) (p : SF) (h : (digF e l p).2.2 = false) (hl : p.1 ≤ l.length) : (digF e l p).2.1 ≤ l.length := by
  unfold digF at h ⊢
  simp only at h ⊢
  split
  · rename_i hc
    rw [if_pos hc] at h
    cases h
  · rename_i hc
    simp only
    have h2 : l[p.1 + digs 9 (l.drop p.1)]? = some e := Classical.not_not.1 (fun hn => hc (.inr hn))
    have := (List.getElem?_eq_some_iff.1 h2).1
    omega
theorem digs_le : ∀ (n : Nat) (l : List UInt8), digs n l ≤ l.length
  | 0, l => Nat.zero_le _
  | n + 1, [] => Nat.zero_le _
  | n + 1, b :: l => by
    simp only [digs, List.length_cons]
    split
    · have := digs_le n l; omega
    · omega
theorem digF_le (e : UInt8) (l : List UInt8) (p : SF) : (digF e l p).2.1 ≤ max p.1 l.length + 1 := by
  have hd := digs_le 9 (l.drop p.1)
  rw [List.length_drop] at hd
  unfold digF
  simp only
  split
  · simp only; omega
  · simp only; omega
set_option maxRecDepth 100000 in
theorem num_any (S : ByteArray) (hS : S.size ≤ 140737488355328) (w : World) (b : Nat) (p : SF) (h : FRep S w b p) (hp : p.1 ≤ 281474976710656) :
    Calls Tryd.prog 34 #[.pointer (some ⟨b, 0, none⟩)] w (FPost S w b (.int .i64 (digF 44 S.data.toList p).1) (digF 44 S.data.toList p).2) := by
  go_enter Tryd.func34, Tryd.ntmps34
  go_wp2_with fail
  refine (digits_any S hS _ b p.1 p.2 44 h hp).mono ?_
  rintro r w' ⟨rfl, h1, h2⟩
  have Hh1 := Lib.hid h1
  have Hh2 := Lib.hid h2
  clear h1 h2
  generalize digF 44 S.data.toList p = d at *
  go_wp2
  go_ret
  exact ⟨rfl, Hh1.out, Hh2.out⟩
end Go.Proofs.YtjeamfoicpgkhaaDoor.RefTaker
