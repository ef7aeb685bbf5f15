/- Several of my texts in one file: RefTaker, RefTaker2, RefCount, RefNums, RefTk. -/
import Derived.Test.YtjeamfoicpgkhaaGreatDoorLumpB
import Derived.IntWalk
import Derived.Test.YtjeamfoicpgkhaaGreatDoorLumpT
/- The reference's taker of packed texts. -/
namespace Go.Proofs.YtjeamfoicpgkhaaGreatDoor.RefTaker
open Go.RowKit Go.Lib Go.Proofs.YtjeamfoicpgkhaaGreatDoor.Mem Go.Proofs.YtjeamfoicpgkhaaGreatDoor.Dec Go.Proofs.YtjeamfoicpgkhaaGreatDoor.Take
set_option linter.unusedVariables false
set_option linter.unusedSimpArgs false
abbrev TF : TypeId := 95
def FRep (S : ByteArray) (w : World) (b : Nat) (p : SF) : Prop := w.heap[b]? = some (.cells #[.string S, .int .i64 (p.1 : Int), .bool p.2] TF (0, 0))
def FPost (S : ByteArray) (w : World) (b : Nat) (v : Value) (p : SF) (e : Ending) (w' : World) : Prop := e = .returned v ∧ FRep S w' b p ∧ Step (fun k => k = b) w w'
theorem f_cells {S : ByteArray} {w : World} {b q : Nat} {x : Bool} (h : w.heap[b]? = some (.cells #[.string S, .int .i64 (q : Int), .bool x] TF (0, 0))) :
    w.cell? ⟨b, 0, none⟩ = some (.string S) ∧ w.cell? ⟨b, 1, none⟩ = some (.int .i64 (q : Int)) ∧ w.cell? ⟨b, 2, none⟩ = some (.bool x) ∧ w.frozen? ⟨b, 1, none⟩ = false ∧ w.frozen? ⟨b, 2, none⟩ = false :=
  ⟨blk_cell h 0, blk_cell h 1, blk_cell h 2, blk_free h 1, blk_free h 2⟩
/-- How many digits stand ahead: found out one by one. -/
theorem digs_is : ∀ (n k : Nat) (l : List UInt8), k ≤ n → k ≤ l.length → (∀ i, i < k → isDig (l.getD i 0) = true) → (k = n ∨ k = l.length ∨ isDig (l.getD k 0) = false) → digs n l = k
  | 0, k, l, hk, _, _, _ => by obtain rfl : k = 0 := by omega
                               rfl
  | n + 1, k, [], hk, hl, _, _ => by
    obtain rfl : k = 0 := by simpa using hl
    rfl
  | n + 1, 0, b :: l, hk, hl, h1, h2 => by
    have hb : isDig b = false := by
      rcases h2 with h2 | h2 | h2
      · omega
      · simp at h2
      · simpa using h2
    simp [digs, hb]
  | n + 1, k + 1, b :: l, hk, hl, h1, h2 => by
    have hb : isDig b = true := by simpa using h1 0 (by omega)
    simp only [digs, hb, if_true]
    rw [digs_is n k l (by omega) (by simpa using hl) (fun i hi => by simpa using h1 (i + 1) (by omega)) (by
      rcases h2 with h2 | h2 | h2
      · left; omega
      · right; left; simpa using h2
      · right; right; simpa using h2)]
/-- The number that so many digits from a place on are. -/
def val (l : List UInt8) (p k : Nat) : Int := Take.valOf ((l.drop p).take k)
theorem val_next (l : List UInt8) (p k : Nat) (h : p + k < l.length) : val l p (k + 1) = 10 * val l p k + (((l.getD (p + k) 0).toNat : Int) - 48) := by
  unfold val
  have h1 : k < (l.drop p).length := by rw [List.length_drop]; omega
  rw [List.take_succ_eq_append_getElem h1, Take.valOf_append, List.getElem_drop]
  rw [List.getD_eq_getElem?_getD, List.getElem?_eq_getElem h]
  rfl
theorem val_le (l : List UInt8) (p : Nat) : ∀ k, p + k ≤ l.length → (∀ i, i < k → isDig (l.getD (p + i) 0) = true) → 0 ≤ val l p k ∧ val l p k < 10 ^ k
  | 0, _, _ => by simp [val, Take.valOf]
  | k + 1, h, hd => by
    obtain ⟨h1, h2⟩ := val_le l p k (by omega) (fun i hi => hd i (by omega))
    have h3 := hd k (by omega)
    unfold isDig at h3
    simp only [Bool.and_eq_true, decide_eq_true_eq] at h3
    rw [val_next l p k (by omega)]
    have h4 : (10 : Int) ^ (k + 1) = 10 * 10 ^ k := by rw [Int.pow_succ]; omega
    rw [h4]
    generalize (10 : Int) ^ k = t at *
    omega
theorem val_small {l : List UInt8} {p k : Nat} (h : p + k ≤ l.length) (hd : ∀ i, i < k → isDig (l.getD (p + i) 0) = true) (hk : k ≤ 8) : 0 ≤ val l p k ∧ val l p k ≤ 99999999 := by
  obtain ⟨h1, h2⟩ := val_le l p k h hd
  refine ⟨h1, ?_⟩
  have : (10 : Int) ^ k ≤ 10 ^ 8 := by
    rcases (by omega : k = 0 ∨ k = 1 ∨ k = 2 ∨ k = 3 ∨ k = 4 ∨ k = 5 ∨ k = 6 ∨ k = 7 ∨ k = 8) with rfl | rfl | rfl | rfl | rfl | rfl | rfl | rfl | rfl <;> decide
  have h8 : (10 : Int) ^ 8 = 100000000 := by decide
  omega
/-- What the digits come to, once it is known how many there are. -/
theorem digF_of (e : UInt8) (l : List UInt8) (p k : Nat) (x : Bool) (hk : k ≤ 9) (hl : p + k ≤ l.length ∨ k = 0) (hd : ∀ i, i < k → isDig (l.getD (p + i) 0) = true) (he : k = 9 ∨ l.length ≤ p + k ∨ isDig (l.getD (p + k) 0) = false) :
    digF e l (p, x) = if k = 0 ∨ l[p + k]? ≠ some e then (0, p + k, true) else (val l p k, p + k + 1, x) := by
  have hg : ∀ i, (l.drop p).getD i 0 = l.getD (p + i) 0 := fun i => by rw [List.getD_eq_getElem?_getD, List.getD_eq_getElem?_getD, List.getElem?_drop]
  have hdl : digs 9 (l.drop p) = k := digs_is 9 k (l.drop p) hk (by rw [List.length_drop]; omega) (fun i hi => by rw [hg]; exact hd i hi) (by
    rcases he with he | he | he
    · exact .inl he
    · right; left; rw [List.length_drop]; omega
    · right; right; rw [hg]; exact he)
  unfold digF
  simp only [hdl]
  rfl
/-- Where the digits' loop stands. -/
def DS (S : ByteArray) (w : World) (b p : Nat) (x : Bool) (k q : Nat) (wr : World) : Prop :=
  q = p + k ∧ k ≤ 9 ∧ (p + k ≤ S.size ∨ k = 0) ∧ (∀ i, i < k → isDig (S.data.toList.getD (p + i) 0) = true) ∧ wr.heap[b]? = some (.cells #[.string S, .int .i64 (q : Int), .bool x] TF (0, 0)) ∧ Step (fun k => k = b) w wr
theorem DS.out {S : ByteArray} {w wr : World} {b p k q : Nat} {x : Bool} (h : DS S w b p x k q wr) (e : UInt8) (he : k = 9 ∨ S.size ≤ q ∨ isDig (S.data.toList.getD q 0) = false) :
    digF e S.data.toList (p, x) = if k = 0 ∨ S.data.toList[q]? ≠ some e then (0, q, true) else (val S.data.toList p k, q + 1, x) := by
  obtain ⟨rfl, h1, h2, h3, -⟩ := h
  have hl : S.data.toList.length = S.size := Array.length_toList
  exact digF_of e _ p k x h1 (by rw [hl]; exact h2) h3 (by rw [hl]; exact he)
theorem DS.next {S : ByteArray} {w wr : World} {b p k q : Nat} {x : Bool} (h : DS S w b p x k q wr) (hq : q < S.size) (hk : k < 9) (hd : isDig (S.data.toList.getD q 0) = true) (n : Nat) : DS S w b p x (k + 1) (q + 1) ((wr.drewN n).setCell ⟨b, 1, none⟩ (.int .i64 ((q : Int) + 1))) := by
  obtain ⟨rfl, h1, h2, h3, h4, h5⟩ := h
  refine ⟨by omega, by omega, .inl (by omega), fun i hi => ?_, ?_, (h5.drewN n).setCell (fun _ => rfl) _⟩
  · rcases Nat.lt_succ_iff_lt_or_eq.1 hi with hi | rfl
    · exact h3 i hi
    · exact hd
  · have := blk_set (w := wr.drewN n) h4 1 (.int .i64 (((p + k : Nat) : Int) + 1))
    simpa using this
theorem f_bad {S : ByteArray} {w W : World} {b q : Nat} {x : Bool} {r : Int × SF} (hr : r = (0, q, true)) (hb : W.heap[b]? = some (.cells #[.string S, .int .i64 (q : Int), .bool x] TF (0, 0))) (hs : Step (fun k => k = b) w W) :
    FPost S w b (.int .i64 r.1) r.2 (.returned (.int .i64 0)) (W.setCell ⟨b, 2, none⟩ (.bool true)) := by
  subst hr
  exact ⟨rfl, by have := blk_set hb 2 (.bool true); simpa [FRep] using this, hs.setCell (fun _ => rfl) _⟩
theorem f_good {S : ByteArray} {w W : World} {b q : Nat} {x : Bool} {v : Int} {r : Int × SF} (hr : r = (v, q + 1, x)) (hb : W.heap[b]? = some (.cells #[.string S, .int .i64 (q : Int), .bool x] TF (0, 0))) (hs : Step (fun k => k = b) w W) :
    FPost S w b (.int .i64 r.1) r.2 (.returned (.int .i64 v)) (W.setCell ⟨b, 1, none⟩ (.int .i64 ((q : Int) + 1))) := by
  subst hr
  exact ⟨rfl, by have := blk_set hb 1 (.int .i64 ((q : Int) + 1)); simpa [FRep] using this, hs.setCell (fun _ => rfl) _⟩
theorem DS.start {S : ByteArray} {w : World} {b p : Nat} {x : Bool} (h : w.heap[b]? = some (.cells #[.string S, .int .i64 (p : Int), .bool x] TF (0, 0))) (n : Nat) : DS S w b p x 0 p (w.drewN n) :=
  ⟨rfl, by omega, .inr rfl, fun i hi => by omega, h, (Step.refl _ _).drewN _⟩
theorem DS.blk {S : ByteArray} {w wr : World} {b p k q : Nat} {x : Bool} (h : DS S w b p x k q wr) : wr.heap[b]? = some (.cells #[.string S, .int .i64 (q : Int), .bool x] TF (0, 0)) := h.2.2.2.2.1
theorem DS.step {S : ByteArray} {w wr : World} {b p k q : Nat} {x : Bool} (h : DS S w b p x k q wr) : Step (fun k => k = b) w wr := h.2.2.2.2.2
theorem DS.none {S : ByteArray} {w wr : World} {b p k q : Nat} {x : Bool} (h : DS S w b p x k q wr) (e : UInt8) (he : k = 9 ∨ S.size ≤ q ∨ isDig (S.data.toList.getD q 0) = false) (hb : k = 0 ∨ S.size ≤ q ∨ S.data.toList.getD q 0 ≠ e) :
    digF e S.data.toList (p, x) = (0, q, true) := by
  rw [h.out e he, if_pos]
  rcases hb with hb | hb | hb
  · exact .inl hb
  · right
    rw [List.getElem?_eq_none (by rw [Array.length_toList]; exact hb)]
    simp
  · right
    intro h2
    apply hb
    rw [List.getD_eq_getElem?_getD, h2]
    rfl
theorem DS.some {S : ByteArray} {w wr : World} {b p k q : Nat} {x : Bool} (h : DS S w b p x k q wr) (e : UInt8) (he : k = 9 ∨ S.size ≤ q ∨ isDig (S.data.toList.getD q 0) = false) (hk : k ≠ 0) (hq : q < S.size) (hb : S.data.toList.getD q 0 = e) :
    digF e S.data.toList (p, x) = (val S.data.toList p k, q + 1, x) := by
  rw [h.out e he, if_neg]
  rintro (h2 | h2)
  · exact hk h2
  · apply h2
    rw [List.getElem?_eq_getElem (by rw [Array.length_toList]; exact hq)]
    rw [List.getD_eq_getElem?_getD, List.getElem?_eq_getElem (by rw [Array.length_toList]; exact hq)] at hb
    exact congrArg Option.some hb
theorem byte_at (S : ByteArray) (q : Nat) (h : q < S.size) : S.data.toList.getD q 0 = S[q]'h := by
  rw [List.getD_eq_getElem?_getD, List.getElem?_eq_getElem (by rw [Array.length_toList]; exact h)]
  rfl
set_option maxHeartbeats 8000000 in
set_option maxRecDepth 100000 in
theorem digits_any (S : ByteArray) (hS : S.size ≤ 140737488355328) (w : World) (b p : Nat) (x : Bool) (e : UInt8) (h : FRep S w b (p, x)) (hp : p ≤ 281474976710656) :
    Calls Tryz.prog 81 #[.pointer (some ⟨b, 0, none⟩), .int .u8 e.toNat] w (FPost S w b (.int .i64 (digF e S.data.toList (p, x)).1) (digF e S.data.toList (p, x)).2) := by
  have h' : w.heap[b]? = some (.cells #[.string S, .int .i64 (p : Int), .bool x] TF (0, 0)) := h
  obtain ⟨c0, c1, c2, f1, f2⟩ := f_cells h'
  have HB := Lib.hid h'
  clear h h'
  go_enter Tryz.func81, Tryz.ntmps81
  go_wp2
  go_quiet (fail)
  go_wp2
  go_loopw [5] (fun v wr => ∃ k q : Nat, v = .int .i64 (val S.data.toList p k) ∧ DS S w b p x k q wr) (fun _ wr => match wr.cell? ⟨b, 1, none⟩ with | some (.int _ n) => S.size - n.toNat | _ => 0)
  case atStart => exact ⟨0, p, by simp [val, Take.valOf], DS.start HB.out _⟩
  case round =>
    obtain ⟨k, q, rfl, hd⟩ := hrel
    clear c0 c1 c2 f1 f2
    obtain ⟨c0, c1, c2, f1, f2⟩ := f_cells hd.blk
    have hq0 : (0 : Int) ≤ q := by omega
    have hqp : (q : Int) = p + k := by have := hd.1; omega
    have hqs : (q : Int) ≤ 281474976710672 := by have := hd.1; have := hd.2.1; omega
    have hk9 := hd.2.1
    have hpk := hd.2.2.1
    have HD := Lib.hid hd
    clear hd
    by_cases hq : q < S.size
    · have t1 : decide ((q : Int) < S.size) = true := decide_eq_true (by omega)
      have t1n : decide (q < S.size) = true := decide_eq_true hq
      have t2 : decide ((S.size : Int) ≤ q) = false := decide_eq_false (by omega)
      have t2n : decide (S.size ≤ q) = false := decide_eq_false (by omega)
      have hq1 : (q : Int) < S.size := by omega
      obtain ⟨c, hc, hcS⟩ : ∃ c : UInt8, S[q]'hq = c ∧ Hid (S.data.toList.getD q 0 = c) := ⟨_, rfl, Lib.hid (byte_at S q hq)⟩
      have hc8 : (c.toNat : Int) ≤ 255 := by have := c.toNat_lt; omega
      by_cases hk : k = 9
      · have t4 : decide ((q : Int) - p < 9) = false := decide_eq_false (by omega)
        have HE : Hid (k = 9 ∨ S.size ≤ q ∨ isDig (S.data.toList.getD q 0) = false) := Lib.hid (.inl hk)
        have t3 : ((q : Int) == p) = false := beq_eq_false_iff_ne.2 (by omega)
        have t3n : (q == p) = false := beq_eq_false_iff_ne.2 (by omega)
        have HK : Hid (k ≠ 0) := Lib.hid (by omega)
        clear hqp hk9 hpk hk
        by_cases hce : c = e
        · have hec : e = c := hce.symm
          clear hce
          subst hec
          have t7 : ((e.toNat : Int) != e.toNat) = false := bne_self_eq_false _
          have t7n : (e.toNat != e.toNat) = false := bne_self_eq_false _
          have HR := Lib.hid (HD.out.some e HE.out HK.out hq hcS.out)
          go_wp2
          go_quiet (fail)
          go_wp2
          go_quiet (fail)
          go_wp2
          go_ret
          exact f_good HR.out HD.out.blk (HD.out.step.drewN _)
        · have t7 : ((c.toNat : Int) != e.toNat) = true := by rw [bne_iff_ne]; intro h; exact hce (UInt8.toNat_inj.1 (by omega))
          have t7n : (c.toNat != e.toNat) = true := by rw [bne_iff_ne]; intro h; exact hce (UInt8.toNat_inj.1 h)
          have HCE := Lib.hid hce
          clear hce
          have HR := Lib.hid (HD.out.none e HE.out (.inr (.inr (by rw [hcS.out]; exact HCE.out))))
          go_wp2
          go_quiet (fail)
          go_wp2
          go_quiet (fail)
          go_wp2
          go_ret
          exact f_bad HR.out HD.out.blk (HD.out.step.drewN _)
      · have t4 : decide ((q : Int) - p < 9) = true := decide_eq_true (by omega)
        by_cases hlo : (c.toNat : Int) < 48
        · have HE : Hid (k = 9 ∨ S.size ≤ q ∨ isDig (S.data.toList.getD q 0) = false) := Lib.hid (.inr (.inr (by rw [hcS.out]; unfold isDig; rw [decide_eq_false (by omega)]; rfl)))
          have t5 : decide ((48 : Int) ≤ c.toNat) = false := decide_eq_false (by omega)
          by_cases hk0 : k = 0
          · have hk2 : q = p := by omega
            have t3 : ((q : Int) == p) = true := beq_iff_eq.2 (by omega)
            have t3n : (q == p) = true := beq_iff_eq.2 hk2
            clear hqp hk9 hpk hk
            subst hk2
            have HR := Lib.hid (HD.out.none e HE.out (.inl hk0))
            go_wp2
            go_quiet (fail)
            go_wp2
            go_quiet (fail)
            go_wp2
            go_ret
            exact f_bad HR.out HD.out.blk (HD.out.step.drewN _)
          · have t3 : ((q : Int) == p) = false := beq_eq_false_iff_ne.2 (by omega)
            have t3n : (q == p) = false := beq_eq_false_iff_ne.2 (by omega)
            have HK : Hid (k ≠ 0) := Lib.hid hk0
            clear hqp hk9 hpk hk hk0
            by_cases hce : c = e
            · have hec : e = c := hce.symm
              clear hce
              subst hec
              have t7 : ((e.toNat : Int) != e.toNat) = false := bne_self_eq_false _
              have t7n : (e.toNat != e.toNat) = false := bne_self_eq_false _
              have HR := Lib.hid (HD.out.some e HE.out HK.out hq hcS.out)
              go_wp2
              go_quiet (fail)
              go_wp2
              go_quiet (fail)
              go_wp2
              go_ret
              exact f_good HR.out HD.out.blk (HD.out.step.drewN _)
            · have t7 : ((c.toNat : Int) != e.toNat) = true := by rw [bne_iff_ne]; intro h; exact hce (UInt8.toNat_inj.1 (by omega))
              have t7n : (c.toNat != e.toNat) = true := by rw [bne_iff_ne]; intro h; exact hce (UInt8.toNat_inj.1 h)
              have HCE := Lib.hid hce
              clear hce
              have HR := Lib.hid (HD.out.none e HE.out (.inr (.inr (by rw [hcS.out]; exact HCE.out))))
              go_wp2
              go_quiet (fail)
              go_wp2
              go_quiet (fail)
              go_wp2
              go_ret
              exact f_bad HR.out HD.out.blk (HD.out.step.drewN _)
        · by_cases hhi : (57 : Int) < c.toNat
          · have HE : Hid (k = 9 ∨ S.size ≤ q ∨ isDig (S.data.toList.getD q 0) = false) := Lib.hid (.inr (.inr (by rw [hcS.out]; unfold isDig; rw [decide_eq_false (show ¬ c.toNat ≤ 57 by omega), Bool.and_false])))
            have t5 : decide ((48 : Int) ≤ c.toNat) = true := decide_eq_true (by omega)
            have t6 : decide ((c.toNat : Int) ≤ 57) = false := decide_eq_false (by omega)
            by_cases hk0 : k = 0
            · have hk2 : q = p := by omega
              have t3 : ((q : Int) == p) = true := beq_iff_eq.2 (by omega)
              have t3n : (q == p) = true := beq_iff_eq.2 hk2
              clear hqp hk9 hpk hk
              subst hk2
              have HR := Lib.hid (HD.out.none e HE.out (.inl hk0))
              go_wp2
              go_quiet (fail)
              go_wp2
              go_quiet (fail)
              go_wp2
              go_ret
              exact f_bad HR.out HD.out.blk (HD.out.step.drewN _)
            · have t3 : ((q : Int) == p) = false := beq_eq_false_iff_ne.2 (by omega)
              have t3n : (q == p) = false := beq_eq_false_iff_ne.2 (by omega)
              have HK : Hid (k ≠ 0) := Lib.hid hk0
              clear hqp hk9 hpk hk hk0
              by_cases hce : c = e
              · have hec : e = c := hce.symm
                clear hce
                subst hec
                have t7 : ((e.toNat : Int) != e.toNat) = false := bne_self_eq_false _
                have t7n : (e.toNat != e.toNat) = false := bne_self_eq_false _
                have HR := Lib.hid (HD.out.some e HE.out HK.out hq hcS.out)
                go_wp2
                go_quiet (fail)
                go_wp2
                go_quiet (fail)
                go_wp2
                go_ret
                exact f_good HR.out HD.out.blk (HD.out.step.drewN _)
              · have t7 : ((c.toNat : Int) != e.toNat) = true := by rw [bne_iff_ne]; intro h; exact hce (UInt8.toNat_inj.1 (by omega))
                have t7n : (c.toNat != e.toNat) = true := by rw [bne_iff_ne]; intro h; exact hce (UInt8.toNat_inj.1 h)
                have HCE := Lib.hid hce
                clear hce
                have HR := Lib.hid (HD.out.none e HE.out (.inr (.inr (by rw [hcS.out]; exact HCE.out))))
                go_wp2
                go_quiet (fail)
                go_wp2
                go_quiet (fail)
                go_wp2
                go_ret
                exact f_bad HR.out HD.out.blk (HD.out.step.drewN _)
          · have t5 : decide ((48 : Int) ≤ c.toNat) = true := decide_eq_true (by omega)
            have t6 : decide ((c.toNat : Int) ≤ 57) = true := decide_eq_true (by omega)
            have hc48 : (48 : Int) ≤ c.toNat := by omega
            have hc57 : (c.toNat : Int) ≤ 57 := by omega
            have hv := val_small (l := S.data.toList) (p := p) (k := k) (by rw [Array.length_toList]; show p + k ≤ S.size; omega) HD.out.2.2.2.1 (by omega)
            have HV : Hid (val S.data.toList p (k + 1) = 10 * val S.data.toList p k + ((c.toNat : Int) - 48)) := Lib.hid (by rw [val_next _ _ _ (by rw [Array.length_toList]; show p + k < S.size; omega), show p + k = q by omega, hcS.out])
            have HN : Hid (∀ n, DS S w b p x (k + 1) (q + 1) ((wr.drewN n).setCell ⟨b, 1, none⟩ (.int .i64 ((q : Int) + 1)))) := Lib.hid (fun n => HD.out.next hq (by omega) (by rw [hcS.out]; unfold isDig; rw [decide_eq_true (show 48 ≤ c.toNat by omega), decide_eq_true (show c.toNat ≤ 57 by omega)]; rfl) n)
            generalize hval : val S.data.toList p k = X at *
            have hX0 : 0 ≤ X := hv.1
            have hX1 : X ≤ 99999999 := hv.2
            clear hv hqp hk9 hpk hval hlo hhi hk
            go_wp2
            go_quiet (fail)
            go_wp2
            go_quiet (fail)
            go_wp2
            go_roundw
            case rel => exact ⟨k + 1, q + 1, by rw [HV.out], HN.out _⟩
            case measure =>
              rw [World.cell?_setCell_same (h := (show (wr.drewN _).cell? ⟨b, 1, none⟩ = _ from c1))]
              simp only [c1]
              omega
    · have HE : Hid (k = 9 ∨ S.size ≤ q ∨ isDig (S.data.toList.getD q 0) = false) := Lib.hid (.inr (.inl (by omega)))
      have t1 : decide ((q : Int) < S.size) = false := decide_eq_false (by omega)
      have t2 : decide ((S.size : Int) ≤ q) = true := decide_eq_true (by omega)
      have t1n : decide (q < S.size) = false := decide_eq_false hq
      have t2n : decide (S.size ≤ q) = true := decide_eq_true (by omega)
      have hq2 : S.size ≤ q := by omega
      by_cases hk : k = 0
      · have hk2 : q = p := by omega
        have t3 : ((q : Int) == p) = true := beq_iff_eq.2 (by omega)
        have t3n : (q == p) = true := beq_iff_eq.2 hk2
        clear hqp hk9 hpk hq
        subst hk2
        have HR := Lib.hid (HD.out.none e HE.out (.inl hk))
        go_wp2
        go_quiet (fail)
        go_wp2
        go_quiet (fail)
        go_wp2
        go_ret
        exact f_bad HR.out HD.out.blk (HD.out.step.drewN _)
      · have t3 : ((q : Int) == p) = false := beq_eq_false_iff_ne.2 (by omega)
        have t3n : (q == p) = false := beq_eq_false_iff_ne.2 (by omega)
        clear hqp hk9 hpk hq
        have HR := Lib.hid (HD.out.none e HE.out (.inr (.inl hq2)))
        go_wp2
        go_quiet (fail)
        go_wp2
        go_quiet (fail)
        go_wp2
        go_ret
        exact f_bad HR.out HD.out.blk (HD.out.step.drewN _)
theorem digF_pos (e : UInt8) (l : List UInt8) (p : SF) (h : (digF e l p).2.2 = false) (hl : p.1 ≤ l.length) : (digF e l p).2.1 ≤ l.length := by
  unfold digF at h ⊢
  simp only at h ⊢
  split
  · rename_i hc
    rw [if_pos hc] at h
    cases h
  · rename_i hc
    simp only
    have h2 : l[p.1 + digs 9 (l.drop p.1)]? = some e := Classical.not_not.1 (fun hn => hc (.inr hn))
    have := (List.getElem?_eq_some_iff.1 h2).1
    omega
theorem digs_le : ∀ (n : Nat) (l : List UInt8), digs n l ≤ l.length
  | 0, l => Nat.zero_le _
  | n + 1, [] => Nat.zero_le _
  | n + 1, b :: l => by
    simp only [digs, List.length_cons]
    split
    · have := digs_le n l; omega
    · omega
theorem digF_le (e : UInt8) (l : List UInt8) (p : SF) : (digF e l p).2.1 ≤ max p.1 l.length + 1 := by
  have hd := digs_le 9 (l.drop p.1)
  rw [List.length_drop] at hd
  unfold digF
  simp only
  split
  · simp only; omega
  · simp only; omega
set_option maxRecDepth 100000 in
theorem num_any (S : ByteArray) (hS : S.size ≤ 140737488355328) (w : World) (b : Nat) (p : SF) (h : FRep S w b p) (hp : p.1 ≤ 281474976710656) :
    Calls Tryz.prog 48 #[.pointer (some ⟨b, 0, none⟩)] w (FPost S w b (.int .i64 (digF 44 S.data.toList p).1) (digF 44 S.data.toList p).2) := by
  go_enter Tryz.func48, Tryz.ntmps48
  go_wp2_with fail
  refine (digits_any S hS _ b p.1 p.2 44 h hp).mono ?_
  rintro r w' ⟨rfl, h1, h2⟩
  have Hh1 := Lib.hid h1
  have Hh2 := Lib.hid h2
  clear h1 h2
  generalize digF 44 S.data.toList p = d at *
  go_wp2
  go_ret
  exact ⟨rfl, Hh1.out, Hh2.out⟩
end Go.Proofs.YtjeamfoicpgkhaaGreatDoor.RefTaker

/- The reference's taker: texts. -/
namespace Go.Proofs.YtjeamfoicpgkhaaGreatDoor.RefTaker
open Go.RowKit Go.Lib Go.Proofs.YtjeamfoicpgkhaaGreatDoor.Mem Go.Proofs.YtjeamfoicpgkhaaGreatDoor.Dec Go.Proofs.YtjeamfoicpgkhaaGreatDoor.Take
set_option linter.unusedVariables false
set_option linter.unusedSimpArgs false
theorem digs_all : ∀ (n : Nat) (l : List UInt8) (i : Nat), i < digs n l → isDig (l.getD i 0) = true
  | 0, l, i, h => by simp [digs] at h
  | n + 1, [], i, h => by simp [digs] at h
  | n + 1, b :: l, i, h => by
    simp only [digs] at h
    split at h
    · rename_i hb
      cases i with
      | zero => simpa using hb
      | succ i => simpa using digs_all n l i (by omega)
    · omega
theorem digs_n : ∀ (n : Nat) (l : List UInt8), digs n l ≤ n
  | 0, l => Nat.le_refl _
  | n + 1, [] => Nat.zero_le _
  | n + 1, b :: l => by
    simp only [digs]
    split
    · have := digs_n n l; omega
    · omega
theorem digF_num (e : UInt8) (l : List UInt8) (p : SF) : 0 ≤ (digF e l p).1 ∧ (digF e l p).1 ≤ 1000000000 := by
  unfold digF
  simp only
  split
  · exact ⟨Int.le_refl _, show (0 : Int) ≤ 1000000000 by decide⟩
  · rename_i hc
    have h2 : l[p.1 + digs 9 (l.drop p.1)]? = some e := Classical.not_not.1 (fun hn => hc (.inr hn))
    have hlt := (List.getElem?_eq_some_iff.1 h2).1
    obtain ⟨h3, h4⟩ := val_le l p.1 (digs 9 (l.drop p.1)) (by omega) (fun i hi => by
      have := digs_all 9 _ i hi
      rw [List.getD_eq_getElem?_getD, List.getElem?_drop] at this
      rw [List.getD_eq_getElem?_getD]
      exact this)
    refine ⟨h3, ?_⟩
    have h9 := digs_n 9 (l.drop p.1)
    have : (10 : Int) ^ digs 9 (l.drop p.1) ≤ 1000000000 := by
      generalize digs 9 (l.drop p.1) = k at *
      rcases (by omega : k = 0 ∨ k = 1 ∨ k = 2 ∨ k = 3 ∨ k = 4 ∨ k = 5 ∨ k = 6 ∨ k = 7 ∨ k = 8 ∨ k = 9) with rfl | rfl | rfl | rfl | rfl | rfl | rfl | rfl | rfl | rfl <;> decide
    show val l p.1 _ ≤ _
    omega
theorem ext_mid (s : ByteArray) (q m : Nat) : s.extract q (q + m) = ⟨((s.data.toList.drop q).take m).toArray⟩ := by
  apply ByteArray.ext
  apply Array.ext'
  simp
theorem frep_bad {S : ByteArray} {W : World} {b q : Nat} {x : Bool} (hb : W.heap[b]? = some (.cells #[.string S, .int .i64 (q : Int), .bool x] TF (0, 0))) : FRep S (W.setCell ⟨b, 2, none⟩ (.bool true)) b (q, true) := by
  have := blk_set hb 2 (.bool true)
  simpa [FRep] using this
set_option maxHeartbeats 4000000 in
set_option maxRecDepth 100000 in
theorem str_any (S : ByteArray) (hS : S.size ≤ 140737488355328) (w : World) (b : Nat) (p : SF) (h : FRep S w b p) (hp : p.1 ≤ 281474976710656) :
    Calls Tryz.prog 52 #[.pointer (some ⟨b, 0, none⟩)] w (FPost S w b (.string ⟨(strF S.data.toList p).1.toArray⟩) (strF S.data.toList p).2) := by
  have hn := digF_num 58 S.data.toList p
  have hle := digF_le 58 S.data.toList p
  have hl : S.data.toList.length = S.size := Array.length_toList
  have hsd : strF S.data.toList p = (if (digF 58 S.data.toList p).2.2 || decide (((S.data.toList.length : Int) - (digF 58 S.data.toList p).2.1) < (digF 58 S.data.toList p).1) then ([], (digF 58 S.data.toList p).2.1, true) else ((S.data.toList.drop (digF 58 S.data.toList p).2.1).take (digF 58 S.data.toList p).1.toNat, (digF 58 S.data.toList p).2.1 + (digF 58 S.data.toList p).1.toNat, false)) := rfl
  rw [hsd, hl]
  clear hsd
  have HH := Lib.hid h
  have HP := Lib.hid hp
  generalize hg : digF 58 S.data.toList p = d at *
  obtain ⟨v, q, x⟩ := d
  simp only at *
  have HG := Lib.hid hg
  obtain ⟨m, rfl⟩ := Int.eq_ofNat_of_zero_le hn.1
  have hm1 : (m : Int) ≤ 1000000000 := hn.2
  have hq1 : (q : Int) ≤ 281474976710658 := by rw [hl] at hle; omega
  have hq0 : (0 : Int) ≤ q := by omega
  have hm0 : (0 : Int) ≤ m := by omega
  clear hg h hp hn hle
  cases x
  · by_cases hlt : (S.size : Int) - q < m
    · have t1 : decide ((S.size : Int) - q < m) = true := decide_eq_true hlt
      have HR : Hid ((if (false || decide ((S.size : Int) - q < m)) = true then (([] : List UInt8), q, true) else (((S.data.toList.drop q).take ((m : Int)).toNat), q + ((m : Int)).toNat, false)) = ([], q, true)) := Lib.hid (by rw [if_pos (by rw [t1]; rfl)])
      clear hlt
      rw [HR.out]
      go_enter Tryz.func52, Tryz.ntmps52
      go_wp2_with fail
      refine (digits_any S hS _ b p.1 p.2 58 HH.out HP.out).mono ?_
      rintro r w' ⟨rfl, h1, h2⟩
      rw [HG.out] at h1
      rw [HG.out]
      have h1' : w'.heap[b]? = some (.cells #[.string S, .int .i64 (q : Int), .bool false] TF (0, 0)) := h1
      obtain ⟨c0, c1, c2, f1, f2⟩ := f_cells h1'
      have HB := Lib.hid h1'
      have HS := Lib.hid h2
      clear h1 h1' h2
      go_wp2
      go_quiet (fail)
      go_wp2
      go_ret
      exact ⟨rfl, frep_bad (W := w'.drewN _) HB.out, (HS.out.drewN _).setCell (fun _ => rfl) _⟩
    · have t1 : decide ((S.size : Int) - q < m) = false := decide_eq_false hlt
      have HR : Hid ((if (false || decide ((S.size : Int) - q < m)) = true then (([] : List UInt8), q, true) else (((S.data.toList.drop q).take ((m : Int)).toNat), q + ((m : Int)).toNat, false)) = ((S.data.toList.drop q).take m, q + m, false)) := Lib.hid (by rw [if_neg (by rw [t1]; decide)]; rfl)
      obtain ⟨r, hr, hrs, hrN⟩ : ∃ r : Nat, (q : Int) + m = r ∧ (r : Int) ≤ S.size ∧ Hid (r = q + m) := ⟨q + m, by omega, by omega, Lib.hid rfl⟩
      have hr2 : IntKind.i64.wrap ((r : Int) - m) = q := by rw [IntWalk.i64_in _ ⟨by omega, by omega⟩]; omega
      have hr3 : (r : Int) - m = q := by omega
      have hqr : (q : Int) ≤ r := by omega
      have hqr2 : q ≤ r := by omega
      have hrs2 : r ≤ S.size := by omega
      have HX : Hid (S.extract q r = ⟨((S.data.toList.drop q).take m).toArray⟩) := Lib.hid (by rw [hrN.out, ext_mid])
      clear hlt
      rw [HR.out]
      go_enter Tryz.func52, Tryz.ntmps52
      go_wp2_with fail
      refine (digits_any S hS _ b p.1 p.2 58 HH.out HP.out).mono ?_
      rintro r w' ⟨rfl, h1, h2⟩
      rw [HG.out] at h1
      rw [HG.out]
      have h1' : w'.heap[b]? = some (.cells #[.string S, .int .i64 (q : Int), .bool false] TF (0, 0)) := h1
      obtain ⟨c0, c1, c2, f1, f2⟩ := f_cells h1'
      have HB := Lib.hid h1'
      have HS := Lib.hid h2
      clear h1 h1' h2
      go_wp2
      go_quiet (fail)
      go_wp2
      generalize hW : World.setCell _ _ _ = W
      have hb := blk_set (w := w'.drewN nq) HB.out 1 (.int .i64 (r : Int))
      rw [hW] at hb
      have hb2 : W.heap[b]? = some (.cells #[.string S, .int .i64 (r : Int), .bool false] TF (0, 0)) := by simpa using hb
      have hst : Step (fun k => k = b) w W := by rw [← hW]; exact (HS.out.drewN _).setCell (fun _ => rfl) _
      clear c0 c1 c2 f1 f2 hW hb
      obtain ⟨c0, c1, c2, f1, f2⟩ := f_cells hb2
      have HB2 := Lib.hid hb2
      have HST := Lib.hid hst
      clear hb2 hst
      go_quiet (fail)
      go_wp2
      go_ret
      exact ⟨by rw [← HX.out]; rfl, by rw [← hrN.out]; exact HB2.out, HST.out.drewN _⟩
  · have HR : Hid ((if (true || decide ((S.size : Int) - q < m)) = true then (([] : List UInt8), q, true) else (((S.data.toList.drop q).take ((m : Int)).toNat), q + ((m : Int)).toNat, false)) = ([], q, true)) := Lib.hid rfl
    rw [HR.out]
    go_enter Tryz.func52, Tryz.ntmps52
    go_wp2_with fail
    refine (digits_any S hS _ b p.1 p.2 58 HH.out HP.out).mono ?_
    rintro r w' ⟨rfl, h1, h2⟩
    rw [HG.out] at h1
    rw [HG.out]
    have h1' : w'.heap[b]? = some (.cells #[.string S, .int .i64 (q : Int), .bool true] TF (0, 0)) := h1
    obtain ⟨c0, c1, c2, f1, f2⟩ := f_cells h1'
    have HB := Lib.hid h1'
    have HS := Lib.hid h2
    clear h1 h1' h2
    go_wp2
    go_quiet (fail)
    go_wp2
    go_ret
    exact ⟨rfl, frep_bad (W := w'.drewN _) HB.out, (HS.out.drewN _).setCell (fun _ => rfl) _⟩
end Go.Proofs.YtjeamfoicpgkhaaGreatDoor.RefTaker

/- The reference's taker: a number of things. -/
namespace Go.Proofs.YtjeamfoicpgkhaaGreatDoor.RefTaker
open Go.RowKit Go.Lib Go.Proofs.YtjeamfoicpgkhaaGreatDoor.Mem Go.Proofs.YtjeamfoicpgkhaaGreatDoor.Dec Go.Proofs.YtjeamfoicpgkhaaGreatDoor.Take
set_option linter.unusedVariables false
set_option linter.unusedSimpArgs false
def countF (t : List UInt8) (p : SF) : Int × SF := if ((t.length : Int) - (digF 44 t p).2.1) < (digF 44 t p).1 then (0, (digF 44 t p).2.1, true) else digF 44 t p
/-- A number that no more things than there are bytes behind it may be. -/
theorem countF_back {x : Int} (h : Small x) (t r : List UInt8) (p : Nat) (ht : t.drop p = num x ++ r) (hx : x ≤ r.length) : countF t (p, false) = (x, p + (num x).length, false) ∧ t.drop (p + (num x).length) = r := by
  have hs : num x ++ r = itoa x ++ 44 :: r := by simp [num]
  obtain ⟨h1, h2⟩ := digF_back 44 (by decide) h t r p (by rw [ht, hs]) false
  have hl : (num x).length = (itoa x).length + 1 := by simp [num]
  have h3 := congrArg List.length h2
  rw [List.length_drop] at h3
  have hlt : p + (itoa x).length + 1 ≤ t.length ∨ r.length = 0 := by omega
  unfold countF
  rw [h1]
  simp only
  rw [if_neg (by
    have h4 := congrArg List.length ht
    rw [List.length_drop, List.length_append, hl] at h4
    omega)]
  exact ⟨by rw [hl]; rfl, by rw [hl]; exact h2⟩
set_option maxHeartbeats 4000000 in
set_option maxRecDepth 100000 in
theorem count_any (S : ByteArray) (hS : S.size ≤ 140737488355328) (w : World) (b : Nat) (p : SF) (h : FRep S w b p) (hp : p.1 ≤ 281474976710656) :
    Calls Tryz.prog 50 #[.pointer (some ⟨b, 0, none⟩)] w (FPost S w b (.int .i64 (countF S.data.toList p).1) (countF S.data.toList p).2) := by
  have hn := digF_num 44 S.data.toList p
  have hle := digF_le 44 S.data.toList p
  have hl : S.data.toList.length = S.size := Array.length_toList
  unfold countF
  rw [hl]
  have HH := Lib.hid h
  have HP := Lib.hid hp
  generalize hg : digF 44 S.data.toList p = d at *
  obtain ⟨v, q, x⟩ := d
  simp only at *
  have HG := Lib.hid hg
  obtain ⟨m, rfl⟩ := Int.eq_ofNat_of_zero_le hn.1
  have hm1 : (m : Int) ≤ 1000000000 := hn.2
  have hq1 : (q : Int) ≤ 281474976710658 := by rw [hl] at hle; omega
  have hq0 : (0 : Int) ≤ q := by omega
  have hm0 : (0 : Int) ≤ m := by omega
  clear hg h hp hn hle
  by_cases hlt : (S.size : Int) - q < m
  · rw [if_pos hlt]
    go_enter Tryz.func50, Tryz.ntmps50
    go_wp2_with fail
    refine (num_any S hS w b p HH.out HP.out).mono ?_
    rintro e w1 ⟨rfl, h1, h2⟩
    rw [HG.out] at h1 ⊢
    unfold FRep at h1
    simp only at h1 ⊢
    obtain ⟨c0, c1, c2, f1, f2⟩ := f_cells h1
    have HB := Lib.hid h1
    have HS := Lib.hid h2
    clear h1 h2
    go_wp2
    go_quiet (fail)
    go_wp2
    go_ret
    exact ⟨rfl, frep_bad (W := w1.drewN _) HB.out, (HS.out.drewN _).setCell (fun _ => rfl) _⟩
  · rw [if_neg hlt]
    go_enter Tryz.func50, Tryz.ntmps50
    go_wp2_with fail
    refine (num_any S hS w b p HH.out HP.out).mono ?_
    rintro e w1 ⟨rfl, h1, h2⟩
    rw [HG.out] at h1 ⊢
    unfold FRep at h1
    simp only at h1 ⊢
    obtain ⟨c0, c1, c2, f1, f2⟩ := f_cells h1
    have HB := Lib.hid h1
    have HS := Lib.hid h2
    clear h1 h2
    go_wp2
    go_quiet (fail)
    go_wp2
    go_ret
    exact ⟨rfl, HB.out, HS.out.drewN _⟩
end Go.Proofs.YtjeamfoicpgkhaaGreatDoor.RefTaker

/- The reference's taker: a row of numbers. -/
namespace Go.Proofs.YtjeamfoicpgkhaaGreatDoor.RefTaker
open Go.RowKit Go.Lib Go.Proofs.YtjeamfoicpgkhaaGreatDoor.Mem Go.Proofs.YtjeamfoicpgkhaaGreatDoor.Dec Go.Proofs.YtjeamfoicpgkhaaGreatDoor.Take Go.Proofs.YtjeamfoicpgkhaaGreatDoor.Tree
set_option linter.unusedVariables false
set_option linter.unusedSimpArgs false
abbrev TI0 : TypeId := 3
theorem infoI0 : (Tryz.prog.info? 3).map (fun i => (i.zero, i.size, i.bytes)) = some (some (.int .i64 0), 1, 8) := by kernel_rfl
def eachF {α : Type} (one : SF → α × SF) : Nat → SF → List α × SF
  | 0, s => ([], s)
  | n + 1, s => if s.2 then ([], s) else ((one s).1 :: (eachF one n (one s).2).1, (eachF one n (one s).2).2)
theorem eachF_stop {α : Type} (one : SF → α × SF) (n : Nat) (q : Nat) : eachF one n (q, true) = ([], (q, true)) := by cases n <;> rfl
theorem eachF_next {α : Type} (one : SF → α × SF) (n q : Nat) : eachF one (n + 1) (q, false) = ((one (q, false)).1 :: (eachF one n (one (q, false)).2).1, (eachF one n (one (q, false)).2).2) := rfl
def numsF (t : List UInt8) (p : SF) : List Int × SF := eachF (digF 44 t) (countF t p).1.toNat (countF t p).2
theorem countF_num (t : List UInt8) (p : SF) : 0 ≤ (countF t p).1 ∧ (countF t p).1 ≤ 1000000000 := by
  unfold countF
  split
  · exact ⟨Int.le_refl 0, (by decide : (0 : Int) ≤ 1000000000)⟩
  · exact digF_num 44 t p
theorem countF_pos (t : List UInt8) (p : SF) (h : (countF t p).2.2 = false) (hl : p.1 ≤ t.length) : (countF t p).2.1 ≤ t.length := by
  unfold countF at h ⊢
  split at h
  · cases h
  · rename_i hc
    rw [if_neg hc]
    exact digF_pos 44 t p h hl
def NumsPost (S : ByteArray) (w : World) (b : Nat) (r : List Int × SF) (e : Ending) (w' : World) : Prop := ∃ v, e = .returned v ∧ IntsO TI0 w.heap.size w' r.1 v ∧ FRep S w' b r.2 ∧ Step (fun k => k = b) w w'
/-- Where the loop stands. -/
structure NS (S : ByteArray) (w : World) (b K : Nat) (c2 : SF) (k : Nat) (ys : List Int) (s : SF) (v : Value) (wr : World) : Prop where
  own : IntsO TI0 w.heap.size wr ys v
  rep : FRep S wr b s
  pos : s.2 = false → s.1 ≤ S.size
  far : s.1 ≤ 281474976710656
  all : eachF (digF 44 S.data.toList) K c2 = (ys ++ (eachF (digF 44 S.data.toList) (K - k) s).1, (eachF (digF 44 S.data.toList) (K - k) s).2)
  len : ys.length = k
  step : Step (fun k => k = b) w wr
theorem NS.done {S : ByteArray} {w : World} {b K : Nat} {c2 : SF} {k : Nat} {ys : List Int} {s : SF} {v : Value} {wr : World} (h : NS S w b K c2 k ys s v wr) (he : K ≤ k ∨ s.2 = true) : NumsPost S w b (eachF (digF 44 S.data.toList) K c2) (.returned v) wr := by
  have e : eachF (digF 44 S.data.toList) K c2 = (ys, s) := by
    rw [h.all]
    rcases he with he | he
    · rw [show K - k = 0 by omega]
      simp [eachF]
    · obtain ⟨q, x⟩ := s
      simp only at he
      subst he
      rw [eachF_stop]
      simp
  rw [e]
  exact ⟨v, rfl, h.own, h.rep, h.step⟩
theorem ns_next {S : ByteArray} {w wr w2 w3 : World} {b K q c : Nat} {c2 s1 : SF} {ys : List Int} {A : Option Addr} {y : Int} {v3 : Value} (hN : NS S w b K c2 ys.length ys (q, false) (.slice A ys.length c) wr) (hnb : ∀ i, (Value.slice A ys.length c).ownBlock = some i → i = b → False)
    (hs : Step (fun k => k = b) wr w2) (ho : IntsO TI0 w.heap.size w2 ys (.slice A ys.length c)) (hr : FRep S w2 b s1) (hp : s1.2 = false → q ≤ S.data.toList.length → s1.1 ≤ S.data.toList.length) (hf : s1.1 ≤ max q S.data.toList.length + 1)
    (he : eachF (digF 44 S.data.toList) (K - (ys.length + 1) + 1) (q, false) = (y :: (eachF (digF 44 S.data.toList) (K - (ys.length + 1)) s1).1, (eachF (digF 44 S.data.toList) (K - (ys.length + 1)) s1).2)) (hlt : ys.length < K) (hS : S.size ≤ 140737488355328)
    (hown : w3.ownsRow 0 TI0 1 v3 (ys.length + 1) (ints ys ++ [.int .i64 y])) (hg : (w2.alloc (.cells #[.int .i64 y] TI0)).grownBy w3 (Value.slice A ys.length c).ownBlock) (hat : v3.ownBlock = (Value.slice A ys.length c).ownBlock ∨ v3.ownBlock = some (w2.alloc (.cells #[.int .i64 y] TI0)).heap.size) :
    NS S w b K c2 (ys.length + 1) (ys ++ [y]) s1 v3 w3 := by
  have hl : S.data.toList.length = S.size := Array.length_toList
  rw [hl] at hp hf
  have hq : q ≤ S.size := hN.pos rfl
  have hst : Step (fun k => (Value.slice A ys.length c).ownBlock = some k) w2 w3 := ((Step.refl _ w2).alloc (.cells #[.int .i64 y] TI0)).grown hg (fun k hk _ => hk)
  have hw2 : Step (fun k => k = b) w w2 := hN.step.trans hs (fun i h _ => h)
  have hsz := hw2.size
  refine ⟨⟨?_, fun k hk => ?_⟩, ?_, fun h => hp h hq, by omega, ?_, by simp, ?_⟩
  · rw [List.length_append, List.length_singleton]
    simpa [ints] using hown
  · rcases hat with hat | hat
    · exact ho.2 k (by rw [← hat]; exact hk)
    · rw [hk] at hat
      injection hat with hat
      have e : (w2.alloc (.cells #[.int .i64 y] TI0)).heap.size = w2.heap.size + 1 := by simp
      omega
  · exact hst.blk hr (fun h => hnb b h rfl)
  · rw [hN.all, show K - ys.length = K - (ys.length + 1) + 1 by omega, he]
    simp
  · exact hw2.trans hst (fun i h hlt => absurd (ho.2 i h) (by omega))
set_option maxHeartbeats 8000000 in
set_option maxRecDepth 100000 in
theorem nums_any (S : ByteArray) (hS : S.size ≤ 140737488355328) (w : World) (b : Nat) (p : SF) (h : FRep S w b p) (hp : p.1 ≤ S.size) :
    Calls Tryz.prog 98 #[.pointer (some ⟨b, 0, none⟩)] w (NumsPost S w b (numsF S.data.toList p)) := by
  have hl : S.data.toList.length = S.size := Array.length_toList
  have hcn := countF_num S.data.toList p
  have hcp := countF_pos S.data.toList p
  rw [hl] at hcp
  have HH := Lib.hid h
  have hle : (countF S.data.toList p).2.1 ≤ 281474976710656 := by
    have hd := digF_le 44 S.data.toList p
    rw [hl] at hd
    have : (countF S.data.toList p).2.1 = (digF 44 S.data.toList p).2.1 := by unfold countF; split <;> rfl
    omega
  have HP : Hid (p.1 ≤ 281474976710656) := Lib.hid (by omega)
  unfold numsF
  have HB0 := Lib.hid (show b < w.heap.size from blk_lt h)
  generalize hg : countF S.data.toList p = d at *
  obtain ⟨v, c2⟩ := d
  simp only at *
  have HG := Lib.hid hg
  obtain ⟨K, rfl⟩ := Int.eq_ofNat_of_zero_le hcn.1
  have hK : (K : Int) ≤ 1000000000 := hcn.2
  rw [Int.toNat_natCast]
  have HC := Lib.hid fun h => hcp h hp
  have HLe := Lib.hid hle
  clear hg h hp hcn hcp hle
  go_enter Tryz.func98, Tryz.ntmps98
  go_wp2_with fail
  refine (count_any S hS w b p HH.out HP.out).mono ?_
  rintro e w1 ⟨rfl, h1, h2⟩
  rw [HG.out] at h1 ⊢
  simp only at h1 ⊢
  have H1 := Lib.hid h1
  have H2 := Lib.hid h2
  clear h1 h2
  go_wp2
  go_loopw [5, 3] (fun i o wr => ∃ (k : Nat) (ys : List Int) (s : SF) (vo : Value), k ≤ K ∧ i = .int .i64 k ∧ o = vo ∧ NS S w b K c2 k ys s vo wr) (fun i _ _ => K - (RowKit.intOf i).toNat)
  case atStart => exact ⟨0, [], c2, _, Nat.zero_le _, rfl, rfl, ⟨⟨World.ownsRow_nil _ _ _ _, fun k hk => by simp [Value.ownBlock] at hk⟩, H1.out, HC.out, HLe.out, by simp, rfl, H2.out⟩⟩
  case round =>
    obtain ⟨k, ys, s, vo, hkK, rfl, rfl, hN⟩ := hrel
    have HN := Lib.hid hN
    obtain ⟨A, c, rfl, -, -⟩ := row_slice hN.own.1
    obtain ⟨q, x⟩ := s
    obtain ⟨c0, c1, c2', f1, f2⟩ := f_cells hN.rep
    obtain rfl := hN.len
    clear hN
    by_cases hlt : ys.length < K
    · have hi1 : (ys.length : Int) < K := by omega
      cases x with
      | true =>
        go_wp2
        go_ret
        exact HN.out.done (.inr rfl)
      | false =>
        go_wp2_with fail
        refine (num_any S hS _ b (q, false) HN.out.rep HN.out.far).mono ?_
        rintro e w2 ⟨rfl, h3, h4⟩
        have HY := Lib.hid (digF_pos 44 S.data.toList (q, false))
        have HF := Lib.hid (digF_le 44 S.data.toList (q, false))
        have HE := Lib.hid (eachF_next (digF 44 S.data.toList) (K - (ys.length + 1)) q)
        generalize digF 44 S.data.toList (q, false) = r at *
        obtain ⟨y, s1⟩ := r
        simp only at h3
        have hnb := fun (i : Nat) (hi : (Value.slice A ys.length c).ownBlock = some i) (e : i = b) => row_ne HN.out.own.1 HN.out.rep (show TI0 ≠ TF by decide) (by rw [hi, e])
        have HNb := Lib.hid hnb
        have HO2 := Lib.hid (HN.out.own.step h4 hnb)
        have HR2 := Lib.hid h3
        have HS2 := Lib.hid h4
        clear h3 h4 hnb c0 c1 c2' f1 f2
        go_wp2_with (at_builtin; refine list_append_own _ rfl (.tmp 20) (.tmp 23) 49 3 _ 1 8 rfl Tryz.underlying49 infoI0 rfl (by decide) (.slice A ys.length c) ys.length (ints ys) rfl (by exact HO2.out.1.alloc _) ⟨w2.heap.size, 0, none⟩ 1 1 [.int .i64 y] rfl rfl (by exact cells_new w2 #[.int .i64 y] TI0) (by simp [Value.oneCell']) (by unfold maxLen; omega) (by omega) ?_; intro v3 w3 hown hg hat; have HM := Lib.hid (ns_next (S := S) HN.out HNb.out HS2.out HO2.out HR2.out HY.out HF.out HE.out hlt hS hown hg hat); clear hown hg hat)
        go_roundw
        case rel => exact ⟨ys.length + 1, ys ++ [y], s1, _, hlt, rfl, rfl, HM.out⟩
        case measure => simp [RowKit.intOf]; omega
    · have hi1 : ¬ (ys.length : Int) < K := by omega
      go_wp2
      go_ret
      exact HN.out.done (.inl (by omega))
end Go.Proofs.YtjeamfoicpgkhaaGreatDoor.RefTaker

/- The reference's taker of packed messages, as plain functions on a place in the text: what is put is taken back. Nothing of the program stands here, save in the texts that are imported. -/
namespace Go.Proofs.YtjeamfoicpgkhaaGreatDoor.RefTk
open Go.Lib Go.Proofs.YtjeamfoicpgkhaaGreatDoor.Dec Go.Proofs.YtjeamfoicpgkhaaGreatDoor.Take Go.Proofs.YtjeamfoicpgkhaaGreatDoor.Tree Go.Proofs.YtjeamfoicpgkhaaGreatDoor.Data Go.Proofs.YtjeamfoicpgkhaaGreatDoor.Pk Go.Proofs.YtjeamfoicpgkhaaGreatDoor.RefTaker
set_option linter.unusedVariables false
set_option linter.unusedSimpArgs false
/-- So much of the text is a thing, and that thing is taken. -/
def Back {α : Type} (one : SF → α × SF) (t enc : List UInt8) (a : α) : Prop := ∀ (p : Nat) (r : List UInt8), t.drop p = enc ++ r → one (p, false) = (a, p + enc.length, false) ∧ t.drop (p + enc.length) = r
theorem num_b {x : Int} (h : Small x) (t : List UInt8) : Back (digF 44 t) t (num x) x := by
  intro p r ht
  have hs : num x ++ r = itoa x ++ 44 :: r := by simp [num]
  obtain ⟨h1, h2⟩ := digF_back 44 (by decide) h t r p (by rw [ht, hs]) false
  have hl : p + (num x).length = p + (itoa x).length + 1 := by simp [num]; omega
  rw [hl]
  exact ⟨h1, h2⟩
theorem str_b {s : List UInt8} (h : Small s.length) (t : List UInt8) : Back (strF t) t (str s) s := fun p r ht => strF_back h t r p ht
theorem each_b {α : Type} {one : SF → α × SF} {enc : α → List UInt8} {t : List UInt8} : ∀ (xs : List α), (∀ a ∈ xs, Back one t (enc a) a) → Back (eachF one xs.length) t (xs.flatMap enc) xs
  | [], _, p, r, ht => ⟨rfl, by simpa using ht⟩
  | a :: xs, h, p, r, ht => by
    rw [List.flatMap_cons, List.append_assoc] at ht
    obtain ⟨h1, h2⟩ := h a (by simp) p _ ht
    obtain ⟨h3, h4⟩ := each_b xs (fun b hb => h b (by simp [hb])) _ r h2
    have hl : p + ((a :: xs).flatMap enc).length = p + (enc a).length + (xs.flatMap enc).length := by rw [List.flatMap_cons, List.length_append]; omega
    rw [List.length_cons, eachF_next, h1]
    simp only
    rw [h3, hl]
    exact ⟨rfl, h4⟩
/-- A count, and then the things. -/
def rowF {α : Type} (one : SF → α × SF) (t : List UInt8) (p : SF) : List α × SF := eachF one (countF t p).1.toNat (countF t p).2
theorem row_b {α : Type} {one : SF → α × SF} {enc : α → List UInt8} {t : List UInt8} (xs : List α) (hn : Small xs.length) (he : ∀ a ∈ xs, 1 ≤ (enc a).length) (h : ∀ a ∈ xs, Back one t (enc a) a) : Back (rowF one t) t (num xs.length ++ xs.flatMap enc) xs := by
  intro p r ht
  rw [List.append_assoc] at ht
  have hlen : xs.length ≤ (xs.flatMap enc).length := by
    clear ht hn h
    induction xs with
    | nil => simp
    | cons a xs ih =>
      have h1 := he a (by simp)
      have h2 := ih (fun b hb => he b (by simp [hb]))
      rw [List.flatMap_cons, List.length_append, List.length_cons]
      omega
  obtain ⟨h1, h2⟩ := countF_back hn t (xs.flatMap enc ++ r) p ht (by rw [List.length_append]; omega)
  obtain ⟨h3, h4⟩ := each_b xs h _ r h2
  unfold rowF
  rw [h1]
  simp only [Int.toNat_natCast]
  have hl : p + (num (xs.length : Int) ++ xs.flatMap enc).length = p + (num (xs.length : Int)).length + (xs.flatMap enc).length := by rw [List.length_append]; omega
  rw [h3, hl]
  exact ⟨rfl, h4⟩
theorem num_pos (x : Int) : 1 ≤ (num x).length := by simp [num]
theorem nums_b {ks : List Int} (h : WfK ks) (t : List UInt8) : Back (numsF t) t (row ks) ks := row_b (enc := num) ks h.1 (fun a _ => num_pos a) (fun a ha => num_b (h.2 a ha) t)
def nodeF (t : List UInt8) (p : SF) : NodeD × SF :=
  let a := digF 44 t p
  let b := digF 44 t a.2
  let c := digF 44 t b.2
  let d := digF 44 t c.2
  let k := numsF t d.2
  (⟨a.1, b.1, c.1, d.1, k.1⟩, k.2)
def stepF (t : List UInt8) (p : SF) : StepD × SF :=
  let a := digF 44 t p
  let b := digF 44 t a.2
  let c := digF 44 t b.2
  let d := digF 44 t c.2
  let e := digF 44 t d.2
  let k := numsF t e.2
  (⟨a.1, b.1, c.1, d.1, e.1, k.1⟩, k.2)
theorem node_b {x : NodeD} (h : WfN x) (t : List UInt8) : Back (nodeF t) t (nodeS x) x := by
  obtain ⟨h1, h2, h3, h4, h5⟩ := h
  intro p r ht
  have e : nodeS x ++ r = num x.id ++ (num x.kind ++ (num x.fr ++ (num x.up ++ (row x.kids ++ r)))) := by simp [nodeS, nums]
  rw [e] at ht
  obtain ⟨a1, b1⟩ := num_b h1 t _ _ ht
  obtain ⟨a2, b2⟩ := num_b h2 t _ _ b1
  obtain ⟨a3, b3⟩ := num_b h3 t _ _ b2
  obtain ⟨a4, b4⟩ := num_b h4 t _ _ b3
  obtain ⟨a5, b5⟩ := nums_b h5 t _ _ b4
  have hl : p + (nodeS x).length = p + (num x.id).length + (num x.kind).length + (num x.fr).length + (num x.up).length + (row x.kids).length := by simp [nodeS, nums]; omega
  unfold nodeF
  rw [hl]
  simp only [a1, a2, a3, a4, a5]
  exact ⟨trivial, b5⟩
theorem step_b {x : StepD} (h : WfS x) (t : List UInt8) : Back (stepF t) t (stepS x) x := by
  obtain ⟨h1, h2, h3, h4, h5, h6⟩ := h
  intro p r ht
  have e : stepS x ++ r = num x.kind ++ (num x.id ++ (num x.node ++ (num x.fr ++ (num x.up ++ (row x.kids ++ r))))) := by simp [stepS, nums]
  rw [e] at ht
  obtain ⟨a1, b1⟩ := num_b h1 t _ _ ht
  obtain ⟨a2, b2⟩ := num_b h2 t _ _ b1
  obtain ⟨a3, b3⟩ := num_b h3 t _ _ b2
  obtain ⟨a4, b4⟩ := num_b h4 t _ _ b3
  obtain ⟨a5, b5⟩ := num_b h5 t _ _ b4
  obtain ⟨a6, b6⟩ := nums_b h6 t _ _ b5
  have hl : p + (stepS x).length = p + (num x.kind).length + (num x.id).length + (num x.node).length + (num x.fr).length + (num x.up).length + (row x.kids).length := by simp [stepS, nums]; omega
  unfold stepF
  rw [hl]
  simp only [a1, a2, a3, a4, a5, a6]
  exact ⟨trivial, b6⟩
def compF (t : List UInt8) (p : SF) : CompD × SF :=
  if t.length ≤ p.1 then (⟨0, 0, ba []⟩, p.1, true)
  else if t.getD p.1 0 = 107 then (⟨0, (digF 44 t (p.1 + 1, p.2)).1, ba []⟩, (digF 44 t (p.1 + 1, p.2)).2)
  else if t.getD p.1 0 = 99 then (⟨2, (digF 44 t (p.1 + 1, p.2)).1, ba []⟩, (digF 44 t (p.1 + 1, p.2)).2)
  else (⟨1, 0, ba (strF t (p.1 + 1, p.2)).1⟩, (strF t (p.1 + 1, p.2)).2)
theorem first_is {t r : List UInt8} {p : Nat} {b : UInt8} (h : t.drop p = b :: r) : p < t.length ∧ t.getD p 0 = b ∧ t.drop (p + 1) = r := by
  have hp : p < t.length := by
    have := congrArg List.length h
    rw [List.length_drop, List.length_cons] at this
    omega
  rw [List.drop_eq_getElem_cons hp] at h
  injection h with h1 h2
  exact ⟨hp, by rw [List.getD_eq_getElem?_getD, List.getElem?_eq_getElem hp]; exact h1, h2⟩
theorem comp_b {c : CompD} (h : WfC c) (t : List UInt8) : Back (compF t) t (compS c) c := by
  obtain ⟨k, n, x⟩ := c
  have hsz : x.data.toList.length = x.size := Array.length_toList
  intro p r ht
  rcases h with ⟨rfl, rfl, h⟩ | ⟨h, hn, rfl⟩
  · simp only at h
    have e : compS ⟨1, 0, x⟩ = 112 :: str x.data.toList := rfl
    rw [e, List.cons_append] at ht
    obtain ⟨f1, f2, f3⟩ := first_is ht
    obtain ⟨a1, b1⟩ := str_b (s := x.data.toList) (by rw [hsz]; exact h) t _ _ f3
    unfold compF
    rw [if_neg (show ¬ t.length ≤ p by omega)]
    simp only
    rw [if_neg (by rw [f2]; decide), if_neg (by rw [f2]; decide), a1, e, List.length_cons, show p + ((str x.data.toList).length + 1) = p + 1 + (str x.data.toList).length by omega]
    exact ⟨rfl, b1⟩
  · simp only at h hn
    rcases h with rfl | rfl
    · have e : compS ⟨2, n, ba []⟩ = 99 :: num n := by simp [compS]
      rw [e, List.cons_append] at ht
      obtain ⟨f1, f2, f3⟩ := first_is ht
      obtain ⟨a1, b1⟩ := num_b hn t _ _ f3
      unfold compF
      rw [if_neg (show ¬ t.length ≤ p by omega)]
      simp only
      rw [if_neg (by rw [f2]; decide), if_pos f2, a1, e, List.length_cons, show p + ((num n).length + 1) = p + 1 + (num n).length by omega]
      exact ⟨rfl, b1⟩
    · have e : compS ⟨0, n, ba []⟩ = 107 :: num n := by simp [compS]
      rw [e, List.cons_append] at ht
      obtain ⟨f1, f2, f3⟩ := first_is ht
      obtain ⟨a1, b1⟩ := num_b hn t _ _ f3
      unfold compF
      rw [if_neg (show ¬ t.length ≤ p by omega)]
      simp only
      rw [if_pos f2, a1, e, List.length_cons, show p + ((num n).length + 1) = p + 1 + (num n).length by omega]
      exact ⟨rfl, b1⟩
theorem compS_pos (c : CompD) : 1 ≤ (compS c).length := by
  unfold compS
  split
  · simp
  · split <;> simp
theorem stepS_pos (c : StepD) : 1 ≤ (stepS c).length := by
  have := num_pos c.kind
  simp [stepS, nums]
  omega
theorem nodeS_pos (c : NodeD) : 1 ≤ (nodeS c).length := by
  have := num_pos c.id
  simp [nodeS, nums]
  omega
theorem entryS_pos (c : EntryD) : 1 ≤ (entryS c).length := by
  have := num_pos c.client
  simp [entryS, nums]
  omega
/-- The taker's loop over pieces; at the text's end it hands back none. -/
def loopC (t : List UInt8) : Nat → SF → List CompD → List CompD × SF
  | 0, s, acc => (acc, s)
  | n + 1, s, acc => if s.2 then (acc, s) else if t.length ≤ s.1 then ([], s.1, true) else loopC t n (compF t s).2 (acc ++ [(compF t s).1])
def compsX (t : List UInt8) (p : SF) : List CompD × SF := loopC t (countF t p).1.toNat (countF t p).2 []
theorem loopC_ok (t : List UInt8) : ∀ (n : Nat) (s : SF) (acc : List CompD), (eachF (compF t) n s).2.2 = false → loopC t n s acc = (acc ++ (eachF (compF t) n s).1, (eachF (compF t) n s).2)
  | 0, s, acc, _ => by simp [loopC, eachF]
  | n + 1, (q, true), acc, h => by rw [eachF_stop] at h; cases h
  | n + 1, (q, false), acc, h => by
    rw [eachF_next] at h ⊢
    simp only at h ⊢
    by_cases hq : t.length ≤ q
    · have e : (compF t (q, false)).2 = (q, true) := by unfold compF; rw [if_pos hq]
      rw [e, eachF_stop] at h
      cases h
    · have ih := loopC_ok t n (compF t (q, false)).2 (acc ++ [(compF t (q, false)).1]) h
      unfold loopC
      rw [if_neg (show ¬ (((q, false) : SF).2 = true) from Bool.false_ne_true), if_neg hq, ih]
      simp
theorem edit_b {cs : List CompD} (h : WfE cs) (t : List UInt8) : Back (compsX t) t (editS cs) cs := fun p r ht => by
  obtain ⟨h1, h2⟩ := row_b (one := compF t) cs h.1 (fun a _ => compS_pos a) (fun a ha => comp_b (h.2 a ha) t) p r ht
  refine ⟨?_, h2⟩
  unfold rowF at h1
  unfold compsX
  rw [loopC_ok t _ _ _ (by rw [h1]), h1]
  rfl
def entryF (t : List UInt8) (p : SF) : EntryD × SF :=
  let a := digF 44 t p
  let b := digF 44 t a.2
  let c := compsX t b.2
  let d := rowF (stepF t) t c.2
  (⟨a.1, b.1, c.1, d.1⟩, d.2)
theorem entry_b {x : EntryD} (h : WfEn x) (t : List UInt8) : Back (entryF t) t (entryS x) x := by
  obtain ⟨h1, h2, h3, h4, h5⟩ := h
  intro p r ht
  have e : entryS x ++ r = num x.client ++ (num x.seq ++ (editS x.edit ++ ((num x.delta.length ++ x.delta.flatMap stepS) ++ r))) := by simp [entryS, nums]
  rw [e] at ht
  obtain ⟨a1, b1⟩ := num_b h1 t _ _ ht
  obtain ⟨a2, b2⟩ := num_b h2 t _ _ b1
  obtain ⟨a3, b3⟩ := edit_b h3 t _ _ b2
  obtain ⟨a4, b4⟩ := row_b (t := t) x.delta h4 (fun a _ => stepS_pos a) (fun a ha => step_b (h5 a ha) t) _ _ b3
  have hl : p + (entryS x).length = p + (num x.client).length + (num x.seq).length + (editS x.edit).length + (num (x.delta.length : Int) ++ x.delta.flatMap stepS).length := by simp [entryS, nums]; omega
  unfold entryF
  rw [hl]
  simp only [a1, a2, a3, a4]
  exact ⟨trivial, b4⟩
def treeF (t : List UInt8) (p : SF) : TreeD × SF :=
  let a := digF 44 t p
  let b := digF 44 t a.2
  let c := rowF (nodeF t) t b.2
  (⟨a.1, b.1, c.1⟩, c.2)
theorem tree_b {x : TreeD} (h : WfT x) (t : List UInt8) : Back (treeF t) t (treeS x) x := by
  obtain ⟨h1, h2, h3, h4⟩ := h
  intro p r ht
  have e : treeS x ++ r = num x.root ++ (num x.next ++ ((num x.nodes.length ++ x.nodes.flatMap nodeS) ++ r)) := by simp [treeS, nums]
  rw [e] at ht
  obtain ⟨a1, b1⟩ := num_b h1 t _ _ ht
  obtain ⟨a2, b2⟩ := num_b h2 t _ _ b1
  obtain ⟨a3, b3⟩ := row_b (t := t) x.nodes h3 (fun a _ => nodeS_pos a) (fun a ha => node_b (h4 a ha) t) _ _ b2
  have hl : p + (treeS x).length = p + (num x.root).length + (num x.next).length + (num (x.nodes.length : Int) ++ x.nodes.flatMap nodeS).length := by simp [treeS, nums]; omega
  unfold treeF
  rw [hl]
  simp only [a1, a2, a3]
  exact ⟨trivial, b3⟩
/-- What stands in a text behind its letter. -/
def msgF (t : List UInt8) : MsgD × SF :=
  let c := digF 44 t (1, false)
  let r := digF 44 t c.2
  if t.getD 0 0 = 80 then
    let q := digF 44 t r.2
    let e := compsX t q.2
    (⟨0, c.1, r.1, q.1, 0, 0, false, e.1, [], ba [], noTree⟩, e.2)
  else if t.getD 0 0 = 67 then
    let e := rowF (entryF t) t r.2
    (⟨1, c.1, r.1, 0, 0, 0, false, [], e.1, ba [], noTree⟩, e.2)
  else
    let q := digF 44 t r.2
    let f := digF 44 t q.2
    let l := digF 44 t f.2
    let u := digF 44 t l.2
    let s := strF t u.2
    let o := treeF t s.2
    (⟨2, c.1, r.1, q.1, f.1, l.1, u.1 == 1, [], [], ba s.1, o.1⟩, o.2)
theorem msg_b {m : MsgD} (h : Wf m) : (msgF (putS m)).1 = m ∧ (msgF (putS m)).2.2 = false := by
  obtain ⟨hc, hr, hq, hk⟩ := h
  obtain ⟨k, c, v, q, f, l, u, es, en, x, ⟨o, n, xs⟩⟩ := m
  simp only at hc hr hq hk
  have hsz : x.data.toList.length = x.size := Array.length_toList
  rcases hk with ⟨rfl, rfl, rfl, rfl, rfl, rfl, hT, hE⟩ | ⟨rfl, rfl, rfl, rfl, rfl, rfl, rfl, hT, hn, hE⟩ | ⟨rfl, rfl, rfl, hf, hl, ht, hW⟩
  · have e : ∀ T, putS ⟨0, c, v, q, 0, 0, false, es, [], ba [], T⟩ = 80 :: (num c ++ (num v ++ (num q ++ (editS es ++ [])))) := fun T => by simp [putS, bodyS, letter, nums]
    rw [hT, e]
    generalize hp : (80 :: (num c ++ (num v ++ (num q ++ (editS es ++ [])))) : List UInt8) = t
    have h0 : t.drop 1 = num c ++ (num v ++ (num q ++ (editS es ++ []))) := by rw [← hp]; rfl
    have hg : t.getD 0 0 = 80 := by rw [← hp]; rfl
    obtain ⟨a1, b1⟩ := num_b hc t _ _ h0
    obtain ⟨a2, b2⟩ := num_b hr t _ _ b1
    obtain ⟨a3, b3⟩ := num_b hq t _ _ b2
    obtain ⟨a4, b4⟩ := edit_b hE t _ _ b3
    unfold msgF
    rw [if_pos hg]
    simp only [a1, a2, a3, a4]
    exact ⟨trivial, trivial⟩
  · have e : ∀ T, putS ⟨1, c, v, 0, 0, 0, false, [], en, ba [], T⟩ = 67 :: (num c ++ (num v ++ ((num en.length ++ en.flatMap entryS) ++ []))) := fun T => by simp [putS, bodyS, letter, nums]
    rw [hT, e]
    generalize hp : (67 :: (num c ++ (num v ++ ((num en.length ++ en.flatMap entryS) ++ []))) : List UInt8) = t
    have h0 : t.drop 1 = num c ++ (num v ++ ((num en.length ++ en.flatMap entryS) ++ [])) := by rw [← hp]; rfl
    have hg : t.getD 0 0 = 67 := by rw [← hp]; rfl
    obtain ⟨a1, b1⟩ := num_b hc t _ _ h0
    obtain ⟨a2, b2⟩ := num_b hr t _ _ b1
    obtain ⟨a3, b3⟩ := row_b (t := t) en hn (fun a _ => entryS_pos a) (fun a ha => entry_b (hE a ha) t) _ _ b2
    unfold msgF
    rw [if_neg (by rw [hg]; decide), if_pos hg]
    simp only [a1, a2, a3]
    exact ⟨trivial, trivial⟩
  · have hb : Small (bit u) := by cases u <;> exact ⟨by decide, by decide⟩
    have hu : (bit u == 1) = u := by cases u <;> rfl
    have e : putS ⟨2, c, v, q, f, l, u, [], [], x, ⟨o, n, xs⟩⟩ = 83 :: (num c ++ (num v ++ (num q ++ (num f ++ (num l ++ (num (bit u) ++ (str x.data.toList ++ (treeS ⟨o, n, xs⟩ ++ [])))))))) := by simp [putS, bodyS, letter, nums]
    rw [e]
    generalize hp : (83 :: (num c ++ (num v ++ (num q ++ (num f ++ (num l ++ (num (bit u) ++ (str x.data.toList ++ (treeS ⟨o, n, xs⟩ ++ [])))))))) : List UInt8) = t
    have h0 : t.drop 1 = num c ++ (num v ++ (num q ++ (num f ++ (num l ++ (num (bit u) ++ (str x.data.toList ++ (treeS ⟨o, n, xs⟩ ++ []))))))) := by rw [← hp]; rfl
    have hg : t.getD 0 0 = 83 := by rw [← hp]; rfl
    obtain ⟨a1, b1⟩ := num_b hc t _ _ h0
    obtain ⟨a2, b2⟩ := num_b hr t _ _ b1
    obtain ⟨a3, b3⟩ := num_b hq t _ _ b2
    obtain ⟨a4, b4⟩ := num_b hf t _ _ b3
    obtain ⟨a5, b5⟩ := num_b hl t _ _ b4
    obtain ⟨a6, b6⟩ := num_b hb t _ _ b5
    obtain ⟨a7, b7⟩ := str_b (s := x.data.toList) (by rw [hsz]; exact ht) t _ _ b6
    obtain ⟨a8, b8⟩ := tree_b hW t _ _ b7
    unfold msgF
    rw [if_neg (by rw [hg]; decide), if_neg (by rw [hg]; decide)]
    simp only [a1, a2, a3, a4, a5, a6, a7, a8, hu]
    exact ⟨rfl, trivial⟩
end Go.Proofs.YtjeamfoicpgkhaaGreatDoor.RefTk
