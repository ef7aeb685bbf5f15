/- The reference's numerals. -/
import Derived.Test.YtjeamfoicpgkhaaDoorMem
import Derived.Test.YtjeamfoicpgkhaaDoorProg
import Derived.Test.YtjeamfoicpgkhaaDoorAppSl
import Derived.Test.YtjeamfoicpgkhaaDoorBytes
import Derived.Test.YtjeamfoicpgkhaaDoorTake
import Derived.Lib.UnsafeStr
namespace Go.Proofs.YtjeamfoicpgkhaaDoor.RefDec
open Go.RowKit Go.Lib Go.Proofs.YtjeamfoicpgkhaaDoor.Mem Go.Proofs.YtjeamfoicpgkhaaDoor.Bytes Go.Proofs.YtjeamfoicpgkhaaDoor.AppSl Go.Proofs.YtjeamfoicpgkhaaDoor.Dec Go.Proofs.YtjeamfoicpgkhaaDoor.Take
set_option linter.unusedVariables false
set_option linter.unusedSimpArgs false
theorem infoU : (Tryd.prog.info? 5).map (fun i => (i.zero, i.size, i.bytes)) = some (some (.int .u8 0), 1, 1) := by kernel_rfl
/-- What is still to be written ahead of l. -/
def J (u : Nat) (l : List UInt8) : List UInt8 := if u = 0 ∧ l ≠ [] then l else decDigits u ++ l
theorem J_start (u : Nat) : J u [] = decDigits u := by simp [J]
theorem J_next (u : Nat) (l : List UInt8) (h : ¬ (u = 0 ∧ l ≠ [])) : J (u / 10) (UInt8.ofNat (48 + u % 10) :: l) = J u l := by
  unfold J
  rw [if_neg h]
  by_cases h10 : u < 10
  · rw [if_pos ⟨by omega, by simp⟩]
    conv => rhs; rw [decDigits, dif_pos h10]
    rw [Nat.mod_eq_of_lt h10]
    rfl
  · rw [if_neg (by omega)]
    conv => rhs; rw [decDigits, dif_neg h10]
    simp
theorem J_end (l : List UInt8) (h : l ≠ []) : J 0 l = l := by simp [J, h]
theorem byte_of (d : Nat) (h : d < 10) : (((UInt8.ofNat (48 + d)).toNat : Nat) : Int) = 48 + (d : Int) := by
  rw [UInt8.toNat_ofNat']
  omega
theorem bytes_news {w : World} {v : Value} {l : List UInt8} {A : Option Addr} {c : Nat} (h : w.ownsRow 0 5 1 v l.length (byteCells l)) (hv : v = .slice A l.length c) :
    (A = none → l.length = 0) ∧ (byteCells l).length = l.length * 1 ∧ ∀ ad, A = some ad → ∀ j u, (byteCells l)[j]? = some u → w.cell? (ad.add j) = some u := by
  subst hv
  refine ⟨fun hA => ?_, by simp [byteCells], fun ad hA j u hu => ?_⟩
  · subst hA
    rcases h.2 with ⟨_, h0⟩ | ⟨g, cap, cur, he, _⟩
    · exact h0
    · cases he
  · subst hA
    rcases h.2 with ⟨he, _⟩ | ⟨g, cap, cur, he, _⟩
    · cases he
    · injection he with he _ _
      injection he with he
      subst he
      exact World.ownsRow.cells h (g := g) rfl j u hu
theorem bytes_one (l : List UInt8) : ∀ u ∈ byteCells l, u.oneCell' = true := by
  intro u hu
  obtain ⟨b, -, rfl⟩ := List.mem_map.1 hu
  rfl
set_option maxHeartbeats 4000000 in
set_option maxRecDepth 100000 in
theorem Decimal_any (n : Nat) (hn : n ≤ 9223372036854775807) (w : World) : Calls Tryd.prog 30 #[.int .i64 (n : Int)] w fun e w' => e = .returned (.string ⟨(decDigits n).toArray⟩) ∧ Step No w w' := by
  have h0 : (0 : Int) ≤ n := by omega
  have h1 : (n : Int) ≤ 9223372036854775807 := by omega
  have HN := Lib.hid hn
  clear hn
  go_enter Tryd.func30, Tryd.ntmps30
  go_wp2
  go_loopw [3, 4] (fun s v wr => ∃ (u : Nat) (l : List UInt8), u ≤ 9223372036854775807 ∧ l.length ≤ 40 ∧ (l.length + nDigits u ≤ 20 ∨ (u = 0 ∧ l.length ≤ 20)) ∧ s = .int .u64 (u : Int) ∧ J u l = decDigits n ∧ wr.ownsRow 0 5 1 v l.length (byteCells l) ∧ Step No w wr) (fun s v _ => (RowKit.intOf s).toNat + (match v with | .slice _ 0 _ => 1 | _ => 0))
  case atStart => exact ⟨n, [], HN.out, by simp, .inl (by have := nDigits_le 19 n (by have := HN.out; omega); simpa using this), rfl, J_start n, World.ownsRow_nil _ _ _ _, Step.refl _ _⟩
  case round =>
    obtain ⟨u, l, hu, hl, hd, rfl, hJ, ho, hs⟩ := hrel
    by_cases hc : u = 0 ∧ l ≠ []
    · obtain ⟨rfl, hl0⟩ := hc
      have hlen : ((l.length : Int) == 0) = false := beq_eq_false_iff_ne.2 (fun e => hl0 (List.eq_nil_of_length_eq_zero (by omega)))
      have hlen2 : (l.length == 0) = false := beq_eq_false_iff_ne.2 (fun e => hl0 (List.eq_nil_of_length_eq_zero e))
      rw [J_end l hl0] at hJ
      obtain ⟨g, c, rfl, -, -⟩ := row_form ho (by have := List.length_pos_iff.2 hl0; omega)
      have HJ := Lib.hid hJ
      have HS := Lib.hid hs
      have hk := bytes_read (P := Tryd.prog) wr g l l.length c rfl (fun k hk => by rw [World.ownsRow.cellAt ho k (by omega)]; simp [byteCells, List.getD_eq_getElem?_getD, List.getElem?_eq_getElem hk]) 46 5 9 Tryd.underlying46 Tryd.underlying5 Tryd.underlying9
      clear hJ ho hs hl0 hd
      go_wp2
      go_ret
      exact ⟨by rw [← HJ.out]; rfl, HS.out⟩
    · have hJ2 := J_next u l hc
      have HJ : Hid (J (u / 10) (UInt8.ofNat (48 + u % 10) :: l) = decDigits n) := Lib.hid (hJ2.trans hJ)
      have HS := Lib.hid hs
      have HO := Lib.hid ho
      have hd2 : (UInt8.ofNat (48 + u % 10) :: l).length + nDigits (u / 10) ≤ 20 ∨ (u / 10 = 0 ∧ (UInt8.ofNat (48 + u % 10) :: l).length ≤ 20) := by
        rw [List.length_cons]
        by_cases h10 : u < 10
        · right
          refine ⟨by omega, ?_⟩
          rcases hd with hd | ⟨h1, h2⟩
          · have := nDigits_pos u; omega
          · have : l = [] := Classical.not_not.1 (fun e => hc ⟨h1, e⟩)
            subst this; simp
        · left
          rcases hd with hd | ⟨h1, h2⟩
          · rw [nDigits_big h10] at hd; omega
          · omega
      have HD := Lib.hid hd2
      obtain ⟨X, hX, HX⟩ : ∃ X : UInt8, 48 + (u : Int) % 10 = ((X.toNat : Nat) : Int) ∧ Hid (UInt8.ofNat (48 + u % 10) = X) := ⟨_, by have := byte_of (u % 10) (Nat.mod_lt _ (by decide)); omega, Lib.hid rfl⟩
      obtain ⟨A, c, rfl, -, -⟩ := row_slice ho
      clear hJ ho hs hd hd2 hJ2
      by_cases hu0 : u = 0
      · have hl0 : l = [] := Classical.not_not.1 (fun e => hc ⟨hu0, e⟩)
        subst hu0 hl0
        clear hc hX
        obtain rfl : X = 48 := by rw [← HX.out]; rfl
        have HR : Hid ((wr.alloc (.cells #[.int .u8 48] 5)).ownsRow 0 5 1 (.slice (some ⟨wr.heap.size, 0, none⟩) 1 1) 1 [.int .u8 48]) := Lib.hid (World.ownsRow_lit wr #[.int .u8 48] 1 (Nat.zero_le _) (by decide) rfl)
        have HB := Lib.hid (bytes_news (HO.out.alloc (.cells #[.int .u8 48] 5)) rfl)
        have HM : Hid (1 + ([] : List UInt8).length ≤ maxLen ∧ (1 + ([] : List UInt8).length) * 1 ≤ 140737488355328) := Lib.hid ⟨by simp only [maxLen, List.length_nil]; omega, by simp only [List.length_nil]; omega⟩
        go_wp2_with (at_builtin; refine list_append_sl _ rfl (.tmp 25) (.tmp 26) 46 5 (.int .u8 0) 1 1 rfl Tryd.underlying46 infoU rfl (Nat.succ_pos 0) (.slice (some ⟨wr.heap.size, 0, none⟩) 1 1) 1 [.int .u8 48] rfl HR.out A ([] : List UInt8).length c (byteCells ([] : List UInt8)) rfl HB.out.1 HB.out.2.1 HB.out.2.2 (bytes_one _) HM.out.1 HM.out.2 ?_; intro v1 w2 hown hg hat; have H1 := Lib.hid hown; have H2 := Lib.hid ((HS.out.alloc _).grown hg (fun k hk hlt => absurd hlt (by have := HS.out.size; simp [Value.ownBlock] at hk; omega))); obtain ⟨A1, c1, rfl, -, -⟩ := row_slice hown; clear hown hg hat)
        go_roundw
        case rel => exact ⟨0, [48], by omega, by simp, HD.out, rfl, HJ.out, H1.out, H2.out⟩
        case measure => simp [RowKit.intOf]
      · have hu1 : decide ((0 : Int) < u) = true := decide_eq_true (by omega)
        have hu2 : (0 : Int) ≤ u := by omega
        have hu3 : (u : Int) ≤ 9223372036854775807 := by omega
        clear hc
        have HR : Hid ((wr.alloc (.cells #[.int .u8 X.toNat] 5)).ownsRow 0 5 1 (.slice (some ⟨wr.heap.size, 0, none⟩) 1 1) 1 [.int .u8 X.toNat]) := Lib.hid (World.ownsRow_lit wr #[.int .u8 X.toNat] 1 (Nat.zero_le _) (by decide) rfl)
        have HB := Lib.hid (bytes_news (HO.out.alloc (.cells #[.int .u8 X.toNat] 5)) rfl)
        have HM : Hid (1 + l.length ≤ maxLen ∧ (1 + l.length) * 1 ≤ 140737488355328) := Lib.hid ⟨by simp only [maxLen]; omega, by omega⟩
        go_wp2_with (at_builtin; refine list_append_sl _ rfl (.tmp 25) (.tmp 26) 46 5 (.int .u8 0) 1 1 rfl Tryd.underlying46 infoU rfl (Nat.succ_pos 0) (.slice (some ⟨wr.heap.size, 0, none⟩) 1 1) 1 [.int .u8 X.toNat] rfl HR.out A l.length c (byteCells l) rfl HB.out.1 HB.out.2.1 HB.out.2.2 (bytes_one _) HM.out.1 HM.out.2 ?_; intro v1 w2 hown hg hat; have H1 := Lib.hid hown; have H2 := Lib.hid ((HS.out.alloc _).grown hg (fun k hk hlt => absurd hlt (by have := HS.out.size; simp [Value.ownBlock] at hk; omega))); obtain ⟨A1, c1, rfl, -, -⟩ := row_slice hown; clear hown hg hat)
        go_roundw
        case rel =>
          refine ⟨u / 10, X :: l, by omega, by rw [List.length_cons]; rcases (HX.out ▸ HD.out) with h | h <;> simp at h ⊢ <;> omega, HX.out ▸ HD.out, by simp, HX.out ▸ HJ.out, ?_, H2.out⟩
          have h := H1.out
          rw [show (X :: l).length = 1 + l.length by simp [Nat.add_comm]]
          exact h
        case measure => simp [RowKit.intOf]; omega
theorem Dec_any (x : Int) (h0 : 0 ≤ x) (h1 : x ≤ 9223372036854775807) (w : World) : Calls Tryd.prog 30 #[.int .i64 x] w fun e w' => e = .returned (.string ⟨(itoa x).toArray⟩) ∧ Step No w w' := by
  obtain ⟨n, rfl⟩ := Int.eq_ofNat_of_zero_le h0
  have : itoa (n : Int) = decDigits n := by unfold itoa; rw [if_neg (by omega)]; rfl
  rw [this]
  exact Decimal_any n (by omega) w
theorem str_app (a b : List UInt8) : (⟨a.toArray⟩ : ByteArray) ++ (⟨b.toArray⟩ : ByteArray) = ⟨(a ++ b).toArray⟩ := by
  apply ByteArray.ext
  rw [ByteArray.data_append]
  simp
theorem str_size (a : List UInt8) : (⟨a.toArray⟩ : ByteArray).size = a.length := by
  show a.toArray.size = _
  simp
theorem str_data (s : ByteArray) : (⟨s.data.toList.toArray⟩ : ByteArray) = s := rfl
theorem itoa_short {x : Int} (h0 : 0 ≤ x) (h1 : x ≤ 9223372036854775807) : (itoa x).length ≤ 21 := itoa_length_le x (by omega) h1
set_option maxRecDepth 100000 in
theorem num_ref (x : Int) (h0 : 0 ≤ x) (h1 : x ≤ 9223372036854775807) (w : World) : Calls Tryd.prog 31 #[.int .i64 x] w fun e w' => e = .returned (.string ⟨(num x).toArray⟩) ∧ Step No w w' := by
  obtain ⟨S, hS, hz⟩ : ∃ S : ByteArray, Hid ((⟨(itoa x).toArray⟩ : ByteArray) = S) ∧ S.size ≤ 21 := ⟨_, Lib.hid rfl, by rw [str_size]; exact itoa_short h0 h1⟩
  have HE : Hid (S ++ ⟨#[44]⟩ = ⟨(num x).toArray⟩) := Lib.hid (by rw [← hS.out]; exact str_app _ [44])
  have H0 := Lib.hid h0
  have H1 := Lib.hid h1
  clear h0 h1
  go_enter Tryd.func31, Tryd.ntmps31
  go_wp2_with fail
  refine (Dec_any x H0.out H1.out _).mono ?_
  rintro e w' ⟨rfl, hs⟩
  rw [hS.out]
  have HS := Lib.hid hs
  clear hs
  go_wp2
  go_ret
  exact ⟨by rw [← HE.out]; rfl, HS.out⟩
set_option maxRecDepth 100000 in
theorem str_ref (s : ByteArray) (hs : s.size ≤ 140737488355328) (w : World) : Calls Tryd.prog 32 #[.string s] w fun e w' => e = .returned (.string ⟨(str s.data.toList).toArray⟩) ∧ Step No w w' := by
  have hl : s.data.toList.length = s.size := Array.length_toList
  obtain ⟨x, hx, hx0, hx1⟩ : ∃ x : Int, (s.size : Int) = x ∧ 0 ≤ x ∧ x ≤ 140737488355328 := ⟨_, rfl, by omega, by omega⟩
  obtain ⟨S, hS, hz⟩ : ∃ S : ByteArray, Hid ((⟨(itoa x).toArray⟩ : ByteArray) = S) ∧ S.size ≤ 21 := ⟨_, Lib.hid rfl, by rw [str_size]; exact itoa_short hx0 (by omega)⟩
  have HE : Hid (S ++ ⟨#[58]⟩ ++ s = ⟨(str s.data.toList).toArray⟩) := Lib.hid (by
    rw [← hS.out, str_app _ [58]]
    conv => lhs; rw [← str_data s]
    rw [str_app]
    simp [str, hl, hx])
  have h1 : S.size + 1 ≤ 9223372036854775807 := by omega
  have h2 : (S ++ ⟨#[58]⟩).size + s.size ≤ 9223372036854775807 := by rw [ByteArray.size_append]; show S.size + 1 + s.size ≤ _; omega
  have h3 : S.size + 1 + s.size ≤ 9223372036854775807 := by omega
  have H0 := Lib.hid hx0
  have H1 := Lib.hid hx1
  clear hx0 hx1 hl
  go_enter Tryd.func32, Tryd.ntmps32
  go_wp2_with fail
  refine (Dec_any x H0.out (by have := H1.out; omega) _).mono ?_
  rintro e w' ⟨rfl, hs⟩
  rw [hS.out]
  have HS := Lib.hid hs
  clear hs hx
  go_wp2
  go_ret
  exact ⟨by rw [← HE.out]; rfl, HS.out⟩
end Go.Proofs.YtjeamfoicpgkhaaDoor.RefDec
