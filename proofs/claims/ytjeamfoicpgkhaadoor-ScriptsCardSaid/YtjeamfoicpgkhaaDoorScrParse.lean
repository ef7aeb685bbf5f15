/- Acts, read from a text: the program's answer. -/
import Derived.Test.YtjeamfoicpgkhaaDoorScrAct
namespace Go.Proofs.YtjeamfoicpgkhaaDoor.ScrW
open Go.RowKit Go.Lib Go.Proofs.YtjeamfoicpgkhaaDoor.Mem Go.Proofs.YtjeamfoicpgkhaaDoor.Scr Go.Proofs.YtjeamfoicpgkhaaDoor.Read Go.Proofs.YtjeamfoicpgkhaaDoor.Env Go.Proofs.YtjeamfoicpgkhaaDoor.Take Go.Proofs.YtjeamfoicpgkhaaDoor.Taker
open Go.Proofs.YtjeamfoicpgkhaaDoor.Writer (EnvS)
open Go.Proofs.YtjeamfoicpgkhaaDoor.Dec (cutAt)
set_option linter.unusedVariables false
set_option linter.unusedSimpArgs false
theorem infoA : (Tryd.prog.info? 37).map (fun i => (i.zero, i.size, i.bytes)) = some (some (.agg #[.int .i64 0, .int .i64 0, .bool false, .int .i64 0, .int .i64 0, .string ⟨#[]⟩]), 6, 56) := by kernel_rfl
theorem byte_le (st : St) : (byteR st).2.1.length ≤ st.1.length := by
  unfold byteR
  cases h : st.1 with
  | nil => simp
  | cons b r => simp only; split <;> simp
theorem dig_le2 (e : UInt8) (st : St) : (digR e st).2.1.length ≤ st.1.length := by
  unfold digR
  cases hc : cutAt e st.1 with
  | none => exact Nat.le_refl _
  | some pq =>
    obtain ⟨p, q⟩ := pq
    have := cut_len hc
    simp only
    cases atoiAll p with
    | ok v =>
      simp only
      split
      · exact Nat.le_refl _
      · simp only; omega
    | «syntax» => exact Nat.le_refl _
    | range => exact Nat.le_refl _
theorem str_le2 (st : St) : (Take.strR st).1.length ≤ st.1.length := by
  have h := dig_le2 58 st
  unfold Take.strR
  simp only
  split
  · simp
  · simp only [List.length_take]; omega
theorem act_text (st : St) : (Scr.actR st).1.text.size ≤ st.1.length := by
  have key : ∀ l : List UInt8, (⟨l.toArray⟩ : ByteArray).size = l.length := fun l => t_size l
  unfold Scr.actR
  simp only [key]
  have h1 := byte_le st
  have h2 := byte_le (byteR st).2
  generalize (byteR st).2 = b at *
  generalize byteR st = b0 at *
  split
  · split
    · have h3 := byte_le (byteR b).2
      have h4 := dig_le2 44 (byteR (byteR b).2).2
      have h5 := dig_le2 44 (digR 44 (byteR (byteR b).2).2).2
      have h6 := str_le2 (digR 44 (digR 44 (byteR (byteR b).2).2).2).2
      simp only
      omega
    · have h5 := dig_le2 44 (byteR b).2
      have h6 := str_le2 (digR 44 (byteR b).2).2
      simp only
      omega
  · simp
/-- What reading comes to. -/
def ParsePost (w : World) (s : ByteArray) (e : Ending) (w' : World) : Prop :=
  ∃ v acts err, e = .returned (.tuple #[v, .int .i64 err]) ∧ Reads s (acts, err) ∧ w'.ownsRow 0 TA 6 v acts.length (acts.flatMap actCells) ∧ (∀ k, v.ownBlock = some k → w.heap.size ≤ k) ∧ (∀ a ∈ acts, a.text.size ≤ maxLen) ∧ Step No w w'
def lenV : Value → Nat
  | .slice _ n _ => n
  | _ => 0
theorem flat_snoc (out : List ActD) (a : ActD) : (out ++ [a]).flatMap actCells = out.flatMap actCells ++ actCells a := by simp
/-- Where the reading stands. -/
def PS (w : World) (b : Nat) (s : List UInt8) (v : Value) (out : List ActD) (st : St) (wr : World) : Prop :=
  wr.ownsRow 0 TA 6 v out.length (out.flatMap actCells) ∧ (∀ k, v.ownBlock = some k → w.heap.size ≤ k) ∧ (∀ a ∈ out, a.text.size ≤ maxLen) ∧ TRep wr b st ∧ Inv s st out ∧ Step No w wr ∧ w.heap.size ≤ b ∧ out.length ≤ 1025
theorem PS.slice {w wr : World} {b : Nat} {s : List UInt8} {v : Value} {out : List ActD} {st : St} (h : PS w b s v out st wr) : ∃ A c, v = .slice A out.length c := by
  obtain ⟨A, c, rfl, -⟩ := row_slice h.1
  exact ⟨A, c, rfl⟩
theorem PS.acts {w wr : World} {b : Nat} {s : List UInt8} {v : Value} {out : List ActD} {st : St} (h : PS w b s v out st wr) : ActS wr out v :=
  SlR.ofRow (by decide) h.1 (fun a _ => rfl) (fun a ha => ⟨rfl, h.2.2.1 a ha⟩)
theorem PS.turn {w wr w1 w2 : World} {b : Nat} {s : List UInt8} {v v1 : Value} {out : List ActD} {st : St} (h : PS w b s v out st wr) (hne : st.1 ≠ []) (hlen : out.length ≤ 1024)
    (h1 : TRep w1 b (Scr.actR st).2) (h2 : Step (fun k => k = b) wr w1) (ho : w2.ownsRow 0 TA 6 v1 (out.length + 1) (out.flatMap actCells ++ actCells (Scr.actR st).1)) (cs : Array Value)
    (hg : (w1.alloc (.cells cs TA)).grownBy w2 v.ownBlock) (hat : v1.ownBlock = v.ownBlock ∨ v1.ownBlock = some (w1.alloc (.cells cs TA)).heap.size) :
    PS w b s v1 (out ++ [(Scr.actR st).1]) (Scr.actR st).2 w2 := by
  obtain ⟨p1, p2, p3, p4, p5, p6, p7, p8⟩ := h
  have hb : v.ownBlock ≠ some b := row_ne p1 p4.1 (by decide)
  have hs : Step No w w1 := p6.trans h2 (fun i e hlt => by omega)
  have hs2 : Step No w (w1.alloc (.cells cs TA)) := hs.alloc _
  have hw : Step No w w2 := hs2.grown hg (fun k hk hlt => absurd (p2 k hk) (by omega))
  refine ⟨?_, ?_, ?_, ?_, inv_step p5 hne, hw, p7, ?_⟩
  · rw [flat_snoc, List.length_append]
    exact ho
  · intro k hk
    rcases hat with hat | hat
    · exact p2 k (by rw [← hat, hk])
    · rw [hk] at hat
      injection hat with hat
      rw [hat]
      exact hs2.size
  · intro a ha
    rcases List.mem_append.1 ha with ha | ha
    · exact p3 a ha
    · rw [List.mem_singleton] at ha
      subst ha
      have := act_text st
      have := p4.2
      unfold maxLen
      omega
  · have hlt : b < (w1.alloc (.cells cs TA)).heap.size := blk_lt (blk_alloc h1.1 (.cells cs TA))
    exact ⟨(hg.block b hlt (fun e => hb e.symm)).trans (blk_alloc h1.1 _), h1.2⟩
  · rw [List.length_append, List.length_singleton]; omega
theorem PS.row {w wr w1 : World} {b : Nat} {s : List UInt8} {v : Value} {out : List ActD} {st : St} (h : PS w b s v out st wr) (h2 : Step (fun k => k = b) wr w1) : w1.ownsRow 0 TA 6 v out.length (out.flatMap actCells) :=
  row_step h.1 h2 (fun k hk e => row_ne h.1 h.2.2.2.1.1 (by decide) (by rw [hk, e]))
def Ended (out : List ActD) (st : St) : Prop := st.1 = [] ∨ st.2 = true ∨ 1024 < out.length
theorem parse_bad {w wr w1 : World} {s U : ByteArray} {v : Value} {out : List ActD} {st : St} {ee : Int} {b : Nat} (h : PS w b s.data.toList v out st wr) (he : Ended out st) (hU : showS out = (U, ee)) (hx : st.2 = true ∨ ee ≠ 0 ∨ U ≠ s) (hs : Step No wr w1) :
    ParsePost w s (.returned (.tuple #[.slice none 0 0, .int .i64 2300])) w1 := by
  have hr := reads_end h.2.2.2.2.1 he
  rw [hU, if_pos hx] at hr
  exact ⟨_, [], 2300, rfl, hr, World.ownsRow_nil _ _ _ _, fun k hk => by simp [Value.ownBlock] at hk, fun a ha => by simp at ha, h.2.2.2.2.2.1.trans hs (fun _ f _ => f)⟩
theorem parse_good {w wr w1 : World} {s : ByteArray} {v : Value} {out : List ActD} {st : St} {b : Nat} (h : PS w b s.data.toList v out st wr) (he : Ended out st) (hU : showS out = (s, 0)) (hx : st.2 = false) (hs : Step No wr w1) :
    ParsePost w s (.returned (.tuple #[v, .int .i64 0])) w1 := by
  have hr := reads_end h.2.2.2.2.1 he
  rw [hU, if_neg (by simp [hx])] at hr
  exact ⟨_, out, 0, rfl, hr, row_step h.1 hs (fun _ _ f => f), h.2.1, h.2.2.1, h.2.2.2.2.2.1.trans hs (fun _ f _ => f)⟩
set_option maxHeartbeats 4000000 in
set_option maxRecDepth 100000 in
theorem Parse_any (w : World) (s : ByteArray) (hs : s.size ≤ 140737488355328) (hE : Env w) : Calls Tryd.prog 10 #[.string s] w (ParsePost w s) := by
  have HE := Lib.hid hE
  have h0 : Hid (PS w w.heap.size s.data.toList (.slice none 0 0) [] (s.data.toList, false) (w.alloc (.cells #[.string s, .bool false] 65))) :=
    Lib.hid ⟨World.ownsRow_nil _ _ _ _, fun k hk => by simp [Value.ownBlock] at hk, fun a ha => by simp at ha, ⟨blk_new w _, by rw [Array.length_toList]; exact hs⟩, inv_start _, Step.alloc (Step.refl _ _) _, Nat.le_refl _, by simp⟩
  clear hE
  go_enter Tryd.func10, Tryd.ntmps10
  go_wp2_with fail
  go_loopw [5] (fun v wr => ∃ out st, PS w w.heap.size s.data.toList v out st wr) (fun v _ => 1026 - lenV v)
  case atStart => exact ⟨_, _, h0.out⟩
  case round =>
    obtain ⟨out, st, h⟩ := hrel
    obtain ⟨A, c, rfl⟩ := h.slice
    obtain ⟨l, x⟩ := st
    have hT := h.2.2.2.1
    obtain ⟨c0, c1, f0, f1⟩ := t_cells hT.1
    have HP := Lib.hid h
    clear h hT
    cases l with
    | nil =>
      have hem : ((⟨([] : List UInt8).toArray⟩ : ByteArray).toList == []) = true := by rw [ByteArray.toList_eq]; rfl
      cases x
      · have HH := Lib.hid (show Ended out ([], false) from .inl rfl)
        have HEE : Hid (Env wr) := Lib.hid (HE.out.step HP.out.2.2.2.2.2.1)
        obtain ⟨U, ee, HU⟩ : ∃ U ee, Hid (showS out = (U, ee)) := ⟨_, _, Lib.hid rfl⟩
        go_wp2_with fail
        refine (Show_any _ _ out HP.out.acts HEE.out).mono ?_
        rintro e w1 ⟨rfl, hs1⟩
        rw [HU.out]
        have d0 := hs1.cell c0 (fun f => f)
        have d1 := hs1.cell c1 (fun f => f)
        clear c0 c1 f0 f1
        have Hhs1 := Lib.hid hs1
        clear hs1
        by_cases h0 : ee = 0
        · subst h0
          by_cases hU : U = s
          · subst hU
            have hb : (U.toList == U.toList) = true := beq_self_eq_true _
            go_wp2
            go_ret2
            exact parse_good HP.out HH.out HU.out rfl Hhs1.out
          · have hb : (U.toList == s.toList) = false := beq_eq_false_iff_ne.2 (fun h => hU (ByteArray.ext (Array.ext' (by rw [← ByteArray.toList_eq, ← ByteArray.toList_eq]; exact h))))
            have HN := Lib.hid hU
            clear hU
            go_wp2
            go_ret2
            exact parse_bad HP.out HH.out HU.out (.inr (.inr HN.out)) Hhs1.out
        · have hb : (ee == 0) = false := beq_eq_false_iff_ne.2 h0
          have hb2 : (ee != 0) = true := bne_iff_ne.2 h0
          have HN := Lib.hid h0
          clear h0
          go_wp2
          go_ret2
          exact parse_bad HP.out HH.out HU.out (.inr (.inl HN.out)) Hhs1.out
      · have HH := Lib.hid (show Ended out ([], true) from .inl rfl)
        have HEE : Hid (Env wr) := Lib.hid (HE.out.step HP.out.2.2.2.2.2.1)
        obtain ⟨U, ee, HU⟩ : ∃ U ee, Hid (showS out = (U, ee)) := ⟨_, _, Lib.hid rfl⟩
        go_wp2_with fail
        refine (Show_any _ _ out HP.out.acts HEE.out).mono ?_
        rintro e w1 ⟨rfl, hs1⟩
        rw [HU.out]
        have d0 := hs1.cell c0 (fun f => f)
        have d1 := hs1.cell c1 (fun f => f)
        clear c0 c1 f0 f1
        have Hhs1 := Lib.hid hs1
        clear hs1
        go_wp2
        go_ret2
        exact parse_bad HP.out HH.out HU.out (.inl rfl) Hhs1.out
    | cons y l =>
      obtain ⟨Z, HZ, hem⟩ : ∃ Z : ByteArray, Hid ((⟨(y :: l).toArray⟩ : ByteArray) = Z) ∧ (Z.toList == []) = false := ⟨_, Lib.hid rfl, by rw [ByteArray.toList_eq]; rfl⟩
      rw [HZ.out] at c0
      cases x
      · by_cases hlen : 1024 < out.length
        · have HH := Lib.hid (show Ended out (y :: l, false) from .inr (.inr hlen))
          have hb : decide ((out.length : Int) ≤ 1024) = false := decide_eq_false (by omega)
          have HEE : Hid (Env wr) := Lib.hid (HE.out.step HP.out.2.2.2.2.2.1)
          obtain ⟨U, ee, HU⟩ : ∃ U ee, Hid (showS out = (U, ee)) := ⟨_, _, Lib.hid rfl⟩
          go_wp2_with fail
          refine (Show_any _ _ out HP.out.acts HEE.out).mono ?_
          rintro e w1 ⟨rfl, hs1⟩
          rw [HU.out]
          have d0 := hs1.cell c0 (fun f => f)
          have d1 := hs1.cell c1 (fun f => f)
          clear c0 c1 f0 f1
          have Hhs1 := Lib.hid hs1
          clear hs1
          by_cases h0 : ee = 0
          · subst h0
            by_cases hU : U = s
            · subst hU
              have hb : (U.toList == U.toList) = true := beq_self_eq_true _
              go_wp2
              go_ret2
              exact parse_good HP.out HH.out HU.out rfl Hhs1.out
            · have hb : (U.toList == s.toList) = false := beq_eq_false_iff_ne.2 (fun h => hU (ByteArray.ext (Array.ext' (by rw [← ByteArray.toList_eq, ← ByteArray.toList_eq]; exact h))))
              have HN := Lib.hid hU
              clear hU
              go_wp2
              go_ret2
              exact parse_bad HP.out HH.out HU.out (.inr (.inr HN.out)) Hhs1.out
          · have hb : (ee == 0) = false := beq_eq_false_iff_ne.2 h0
            have hb2 : (ee != 0) = true := bne_iff_ne.2 h0
            have HN := Lib.hid h0
            clear h0
            go_wp2
            go_ret2
            exact parse_bad HP.out HH.out HU.out (.inr (.inl HN.out)) Hhs1.out
        · have hb : decide ((out.length : Int) ≤ 1024) = true := decide_eq_true (by omega)
          obtain ⟨ST, HST⟩ : ∃ st : St, Hid ((y :: l, false) = st) := ⟨_, Lib.hid rfl⟩
          obtain ⟨a, st2, HA⟩ : ∃ a st2, Hid (Scr.actR ST = (a, st2)) := ⟨_, _, Lib.hid rfl⟩
          have HNE : Hid (ST.1 ≠ []) := Lib.hid (by rw [← HST.out]; simp)
          rw [HST.out] at HP
          clear HST HZ
          go_wp2_with fail
          refine (act_any _ w.heap.size ST HP.out.2.2.2.1 (fun w' hst => HE.out.step (HP.out.2.2.2.2.2.1.trans hst (fun i e hlt => by omega)))).mono ?_
          rintro e w1 hp
          rw [HA.out] at hp
          obtain ⟨rfl, h1, h2⟩ := hp
          have H1 := Lib.hid h1
          have H2 := Lib.hid h2
          clear h1 h2 c0 c1 f0 f1
          obtain ⟨kd, cl, up, pl, n, t⟩ := a
          unfold aggA
          simp only
          have hlen2 : out.length ≤ 1024 := by omega
          go_wp2_with (at_builtin; refine list_append_own _ rfl (.tmp 28) (.tmp 31) 22 37 (.agg #[.int .i64 0, .int .i64 0, .bool false, .int .i64 0, .int .i64 0, .string ⟨#[]⟩]) 6 56 rfl Tryd.underlying22 infoA rfl (by decide) (.slice A out.length c) out.length (out.flatMap actCells) rfl (by exact row_move (HP.out.row H2.out) (fun k hk => (Step.alloc (Step.refl No w1) _).block k ((HP.out.row H2.out).lt k hk).2 (fun f => f))) ⟨w1.heap.size, 0, none⟩ 1 1 [.int .i64 kd, .int .i64 cl, .bool up, .int .i64 pl, .int .i64 n, .string t] rfl rfl (by exact cells_new w1 #[.int .i64 kd, .int .i64 cl, .bool up, .int .i64 pl, .int .i64 n, .string t] 37) (by simp [Value.oneCell']) (by simp only [maxLen]; omega) (by omega) ?_; intro v1 w2 hown hg hat; have HQ := Lib.hid (HP.out.turn HNE.out hlen2 (by rw [HA.out]; exact H1.out) H2.out (by rw [HA.out]; exact hown) _ hg hat); rw [HA.out] at HQ; clear hown hg hat; obtain ⟨A2, c2, rfl⟩ := HQ.out.slice)
          go_roundw
          case rel =>
            have h := HQ.out
            simp only [List.length_append, List.length_cons, List.length_nil, Nat.zero_add] at h
            exact ⟨_, _, h⟩
          case measure => simp [lenV]; omega
      · have HH := Lib.hid (show Ended out (y :: l, true) from .inr (.inl rfl))
        have HEE : Hid (Env wr) := Lib.hid (HE.out.step HP.out.2.2.2.2.2.1)
        obtain ⟨U, ee, HU⟩ : ∃ U ee, Hid (showS out = (U, ee)) := ⟨_, _, Lib.hid rfl⟩
        go_wp2_with fail
        refine (Show_any _ _ out HP.out.acts HEE.out).mono ?_
        rintro e w1 ⟨rfl, hs1⟩
        rw [HU.out]
        have d0 := hs1.cell c0 (fun f => f)
        have d1 := hs1.cell c1 (fun f => f)
        clear c0 c1 f0 f1
        have Hhs1 := Lib.hid hs1
        clear hs1
        go_wp2
        go_ret2
        exact parse_bad HP.out HH.out HU.out (.inl rfl) Hhs1.out
end Go.Proofs.YtjeamfoicpgkhaaDoor.ScrW
