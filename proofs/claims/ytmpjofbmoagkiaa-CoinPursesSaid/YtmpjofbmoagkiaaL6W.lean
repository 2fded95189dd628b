/- The statement's own walk. -/
import Derived.Test.YtmpjofbmoagkiaaL6
import Derived.Test.YtmpjofbmoagkiaaP6
import Derived.Deep.QuietTactic
import Derived.BigQuiet
import Derived.Deep.RegionHeld3
namespace Go.Proofs.Ytmpjofbmoagkiaa
open Go.RowKit Go.Maps Mp
set_option maxRecDepth 100000

theorem Rd.ch {w w' : World} {A : Option Addr} {xs : List Int} {p : Nat} {mo : Option Nat} {m : List (Int × Int)} (h : Rd (Value.int .i64) w A xs) (hp : PurseAt w p mo m) (hc : Ch (fun k => k = p ∨ some k = mo) w w') : Rd (Value.int .i64) w' A xs := fun j x hx => by
  obtain ⟨b, o, e, hcell⟩ := h j x hx
  refine ⟨b, o, e, ?_⟩
  refine (World.cell?_of_block (w := w) (hc.block b (World.block_lt_of_cell? w _ hcell) ?_)).trans hcell
  · rintro (e1 | e1)
    · subst e1
      rw [cell_of_row _ _ _ _ _ _ hp.1] at hcell
      match o + j, hcell with
      | 0, hcell => simp at hcell
      | k + 1, hcell => simp at hcell
    · rcases hp.2 with ⟨e2, _⟩ | ⟨r, e2, hm⟩
      · rw [e2] at e1; cases e1
      · rw [e2] at e1
        injection e1 with e1
        subst e1
        obtain ⟨es, clock, hb, _⟩ := hm
        simp [World.cell?, hb] at hcell
theorem Ref.ch {w w' : World} {A B : Option Addr} {q : List (Int × Int)} {p : Nat} {mo : Option Nat} {m : List (Int × Int)} (h : Ref w A B q) (hp : PurseAt w p mo m) (hc : Ch (fun k => k = p ∨ some k = mo) w w') : Ref w' A B q :=
  ⟨h.keys.ch hp hc, h.vals.ch hp hc⟩
theorem Ref.below {w w' : World} {A B : Option Addr} {q : List (Int × Int)} (h : Ref w A B q) (hb : Below w.heap.size w w') : Ref w' A B q := ⟨h.keys.below hb, h.vals.below hb⟩
theorem PurseAt.below {w w' : World} {p : Nat} {mo : Option Nat} {m : List (Int × Int)} (h : PurseAt w p mo m) (hb : Below w.heap.size w w') : PurseAt w' p mo m := by
  refine ⟨(hb.block p (Array.getElem?_eq_some_iff.1 h.1).1).trans h.1, ?_⟩
  rcases h.2 with h2 | ⟨r, e, hm⟩
  · exact .inl h2
  · exact .inr ⟨r, e, hm.below hb⟩

theorem notPurse {w : World} {p ob : Nat} {mo : Option Nat} {m : List (Int × Int)} {cs : Array Value} (hP : PurseAt w p mo m) (hO : w.heap[ob]? = some (.cells cs 30 (0, 0))) : ¬ (ob = p ∨ some ob = mo) := by
  rintro (rfl | e)
  · have := hP.1.symm.trans hO
    injection this with this
    injection this with _ this
    cases this
  · rcases hP.2 with ⟨e2, _⟩ | ⟨r, e2, hm⟩
    · rw [e2] at e; cases e
    · rw [e2] at e
      injection e with e
      subst e
      obtain ⟨es, clock, hb, _⟩ := hm
      rw [hb] at hO
      cases hO
theorem Ch.below_of {S : Nat → Prop} {B : Nat} {w W W' : World} (h : Ch S W W') (hb : Below B w W) (hB : ∀ k, S k → B ≤ k) (hs : B ≤ w.heap.size := by omega) : Below B w W' :=
  ⟨h.os.trans hb.os, h.tape.trans hb.tape, h.output.trans hb.output, Nat.le_trans hb.size h.size, fun k hk => (h.block k (by have := hb.size; omega) (fun hs => by have := hB k hs; omega)).trans (hb.block k hk)⟩
theorem Ref.drewN {w : World} {A B : Option Addr} {q : List (Int × Int)} (h : Ref w A B q) (n : Nat) : Ref (w.drewN n) A B q := ⟨fun j x hx => h.keys j x hx, fun j x hx => h.vals j x hx⟩
theorem PurseAt.drewN {w : World} {p : Nat} {mo : Option Nat} {m : List (Int × Int)} (h : PurseAt w p mo m) (n : Nat) : PurseAt (w.drewN n) p mo m := ⟨h.1, h.2.imp id (fun ⟨r, e, hm⟩ => ⟨r, e, hm.of_heap rfl⟩)⟩
structure Inv6 (w wr : World) (n : Nat) (k l : Value) : Prop where
  ex : ∃ m q mo A c B d, k = .slice A q.length c ∧ l = .slice B q.length d ∧ PurseAt wr w.heap.size mo m ∧ Ref wr A B q ∧ Both m q ∧ q.length ≤ 2 * n ∧ (∀ r, mo = some r → w.heap.size ≤ r)
  below : Below w.heap.size w wr

set_option maxHeartbeats 1000000 in
theorem law6_walk (A : Option Addr) (c : Nat) (xs : List COp) (w : World) (hx : RdN COp.cells 4 w A xs) (_hl : xs.length ≤ 4611686018427387904) (hok : ∀ o ∈ xs, okI o.src ∧ okI o.dst ∧ okI o.kind ∧ okI o.n) :
    Calls Try.prog 3 #[.slice A xs.length c] w fun e w' => e = .returned (.bool true) ∧ Below w.heap.size w w' := by
  go_enter Try.func3, Try.ntmps3
  go_wp2_with fail
  go_loopw [4, 5, 6] (fun k l i wr => ∃ n : Nat, n ≤ xs.length ∧ n ≤ 60 ∧ i = .int .i64 n ∧ Inv6 w wr n k l) (fun _ _ i _ => xs.length - (intOf i).toNat)
  case atStart =>
    refine ⟨0, Nat.zero_le _, by omega, rfl, ⟨⟨[], [], none, none, 0, none, 0, rfl, rfl, ⟨heap_alloc_new w _, .inl ⟨rfl, rfl⟩⟩, ⟨Rd.nil _ _ _, Rd.nil _ _ _⟩, ⟨fun _ => rfl, by simp, fun k => by simp [has, lk], fun p hp => by simp at hp⟩, Nat.le_refl _, fun r e => by cases e⟩, (Below.refl _ _).alloc (Nat.le_refl _) _⟩⟩
  case round =>
    obtain ⟨n, hn, hn60, rfl, ⟨m, q, mo, K, c1, L, d1, rfl, rfl, hP, hR, hB, hq, hmo⟩, hbel⟩ := hrel
    have HPx := Hd.mk hP
    have HRx := Hd.mk hR
    have HBx := Hd.mk hbel
    by_cases hlt : n < xs.length ∧ n < 60
    · clear HPx HRx HBx
      obtain ⟨hlt, h60⟩ := hlt
      obtain ⟨b, o, rfl, hc⟩ := hx n xs[n] (List.getElem?_eq_getElem hlt)
      have hcell : ∀ (i : Nat) u, (COp.cells xs[n])[i]? = some u → wr.cell? ⟨b, o + (n * 4 + i), none⟩ = some u := fun i u hu => (hbel.cell (p := ⟨b, o + (n * 4 + i), none⟩) (World.block_lt_of_cell? w _ (hc i u hu))).trans (hc i u hu)
      obtain ⟨ok1, ok2, ok3, ok4⟩ := hok xs[n] (List.getElem_mem hlt)
      obtain ⟨op, hop⟩ : ∃ op, op = xs[n] := ⟨_, rfl⟩
      rw [← hop] at hcell ok1 ok2 ok3 ok4
      have hc0 := hcell 0 _ rfl
      have hc1 := hcell 1 _ rfl
      have hc2 := hcell 2 _ rfl
      have hc3 := hcell 3 _ rfl
      clear hop hcell hc
      simp only [Nat.add_zero] at hc0
      rw [← Nat.add_assoc] at hc1 hc2 hc3
      have hP1 := hP.alloc (.cells #[.int .i64 op.kind, .int .i64 op.src, .int .i64 op.dst, .int .i64 op.n] 30)
      have hR1 := hR.below ((Below.refl wr.heap.size wr).alloc (Nat.le_refl _) (.cells #[.int .i64 op.kind, .int .i64 op.src, .int .i64 op.dst, .int .i64 op.n] 30))
      have hb1 := hbel.alloc hbel.size (.cells #[.int .i64 op.kind, .int .i64 op.src, .int .i64 op.dst, .int .i64 op.n] 30)
      have hO1 := heap_alloc_new wr (.cells #[.int .i64 op.kind, .int .i64 op.src, .int .i64 op.dst, .int .i64 op.n] 30)
      have HP := Hd.mk hP1
      have HR := Hd.mk hR1
      have HB := Hd.mk hb1
      have HO := Hd.mk hO1
      clear hP hR hbel hP1 hR1 hb1 hO1
      by_cases hk0 : op.kind = 0
      · have hk0' : (op.kind == 0) = true := by simpa using hk0
        clear hk0
        go_wp2_with fail
        obtain ⟨W, hW⟩ : ∃ W, W = wr.alloc (.cells #[.int .i64 op.kind, .int .i64 op.src, .int .i64 op.dst, .int .i64 op.n] 30) := ⟨_, rfl⟩
        rw [← hW] at HP HR HB HO
        rw [← hW]
        have hsz : wr.heap.size < W.heap.size := by rw [hW]; simp
        clear hW
        generalize wr.heap.size = ob at *
        have e0 : W.cell? ⟨ob, 0, none⟩ = some (.int .i64 op.kind) := by rw [cell_of_row W ob 0 _ _ _ HO.out]; rfl
        have e1 : W.cell? ⟨ob, 1, none⟩ = some (.int .i64 op.src) := by rw [cell_of_row W ob 1 _ _ _ HO.out]; rfl
        have e2 : W.cell? ⟨ob, 2, none⟩ = some (.int .i64 op.dst) := by rw [cell_of_row W ob 2 _ _ _ HO.out]; rfl
        have e3 : W.cell? ⟨ob, 3, none⟩ = some (.int .i64 op.n) := by rw [cell_of_row W ob 3 _ _ _ HO.out]; rfl
        go_region_held3 (fun w' => w'.cell? ⟨ob, 1, none⟩ = some (.int .i64 op.src) ∧ w'.cell? ⟨ob, 3, none⟩ = some (.int .i64 op.n)) (go_keep) (first
          | (go_at_call 10; refine (law6_has K L c1 d1 q op.src _ ?_ (by omega)).mono ?_; (exact HR.out.below (Below.refl _ _).drew); rintro e w' ⟨rfl, rfl⟩)
          | (go_at_call 9; refine (law6_add _ _ [has q op.src, op.n] _ ?_ (by simp)).mono ?_; (exact (rd_lit _ _ _ _ rfl).drew); rintro e w' ⟨rfl, rfl⟩))
        have HP2 : Hd (PurseAt (W.alloc (.cells #[.int .i64 (has q op.src), .int .i64 op.n] 2)).drew w.heap.size mo m) := ⟨HP.out.alloc _⟩
        have HR2 : Hd (Ref (W.alloc (.cells #[.int .i64 (has q op.src), .int .i64 op.n] 2)).drew K L q) := ⟨(HR.out.below ((Below.refl _ _).alloc (Nat.le_refl _) _)).below (Below.refl _ _).drew⟩
        have HB2 : Hd (Below w.heap.size w (W.alloc (.cells #[.int .i64 (has q op.src), .int .i64 op.n] 2)).drew) := ⟨(HB.out.alloc HB.out.size _).drew⟩
        have HO2 : Hd ((W.alloc (.cells #[.int .i64 (has q op.src), .int .i64 op.n] 2)).drew.heap[ob]? = some (.cells #[.int .i64 op.kind, .int .i64 op.src, .int .i64 op.dst, .int .i64 op.n] 30 (0, 0))) := ⟨(Below.heap_alloc _ _ _ hsz).trans HO.out⟩
        go_wp2_with fail
        generalize (W.alloc (.cells #[.int .i64 (has q op.src), .int .i64 op.n] 2)).drew = W2 at *
        have hs := hB.same op.src
        have HE : Hd (putE m op.src op.n = (addL 0 [has q op.src, op.n]).2) := ⟨by rw [putE, hs]⟩
        clear hs
        refine (purse_Put w.heap.size mo m op.src op.n ok1 _ HP2.out).mono ?_
        rintro e W3 ⟨he, mo', hP3, hC3, hmo3⟩
        rw [HE.out] at he
        subst he
        have hR3 := HR2.out.ch HP2.out hC3
        have hB3 : Below w.heap.size w W3 := hC3.below_of HB2.out (fun k hk => by
          rcases hk with rfl | hk
          · exact Nat.le_refl _
          · exact hmo k hk.symm)
        have hO3 : W3.heap[ob]? = some (.cells #[.int .i64 op.kind, .int .i64 op.src, .int .i64 op.dst, .int .i64 op.n] 30 (0, 0)) :=
          (hC3.block ob (Array.getElem?_eq_some_iff.1 HO2.out).1 (notPurse HP2.out HO2.out)).trans HO2.out
        have hmo3' : ∀ r, mo' = some r → w.heap.size ≤ r := fun r hr => by
          rcases hmo3 with e | ⟨r', e, hle⟩
          · exact hmo r (by rw [← e]; exact hr)
          · rw [e] at hr; injection hr with hr; subst hr; exact Nat.le_trans HB2.out.size hle
        have e1' : W3.cell? ⟨ob, 1, none⟩ = some (.int .i64 op.src) := by rw [cell_of_row W3 ob 1 _ _ _ hO3]; rfl
        have e3' : W3.cell? ⟨ob, 3, none⟩ = some (.int .i64 op.n) := by rw [cell_of_row W3 ob 3 _ _ _ hO3]; rfl
        clear e0 e1 e2 e3 hc0 hc1 hc2 hc3 hC3 hmo3 hO3
        by_cases he0 : (addL 0 [has q op.src, op.n]).2 = 0
        · have he0' : ((addL 0 [has q op.src, op.n]).2 == 0) = true := by simpa using he0
          have HB3 := hB.put2 ok1 he0
          clear he0
          go_wp2_with (go_at_call 12; refine (law6_put K L c1 d1 q op.src (addL 0 [has q op.src, op.n]).1 _ hR3 hB.nodup (by omega)).mono ?_; rintro e W4 ⟨hb4, K', c', L', d', rfl, hR4⟩)
          go_roundw
          case rel => exact ⟨n + 1, by omega, by omega, by go_num, ⟨_, _, mo', K', c', L', d', rfl, rfl, hP3.below hb4, hR4, HB3, by have := put_length q op.src (addL 0 [has q op.src, op.n]).1; omega, hmo3'⟩, hB3.trans (hb4.mono hB3.size)⟩
          case measure => simp [intOf]; omega
        · have he0' : ((addL 0 [has q op.src, op.n]).2 == 0) = false := by simpa using he0
          have HM := Hd.mk (putM_same hB he0)
          clear he0
          go_wp2_with fail
          go_roundw
          case rel => exact ⟨n + 1, by omega, by omega, by go_num, ⟨m, q, mo', K, c1, L, d1, rfl, rfl, by rw [← HM.out]; exact hP3, hR3, hB, by omega, hmo3'⟩, hB3⟩
          case measure => simp [intOf]; omega
      · have hk0' : (op.kind == 0) = false := by simpa using hk0
        clear hk0
        have key : ∃ v, wantE q op.src op.dst op.n = v ∧ ((rightB op.n = false ∧ v = 5) ∨ (rightB op.n = true ∧ (0 ≤ op.n ∧ op.n ≤ 1125899906842624) ∧ has q op.src < op.n ∧ v = 14) ∨
            (rightB op.n = true ∧ (0 ≤ op.n ∧ op.n ≤ 1125899906842624) ∧ op.n ≤ has q op.src ∧ (op.src != op.dst) = true ∧ rightB (has q op.dst + op.n) = false ∧ v = 10) ∨
            (rightB op.n = true ∧ (0 ≤ op.n ∧ op.n ≤ 1125899906842624) ∧ op.n ≤ has q op.src ∧ (op.src != op.dst) = false ∧ v = 0) ∨
            (rightB op.n = true ∧ (0 ≤ op.n ∧ op.n ≤ 1125899906842624) ∧ op.n ≤ has q op.src ∧ (op.src != op.dst) = true ∧ rightB (has q op.dst + op.n) = true ∧ v = 0)) := by
          refine ⟨_, rfl, ?_⟩
          unfold wantE
          by_cases h1 : rightB op.n = true
          · have h1' : 0 ≤ op.n ∧ op.n ≤ 1125899906842624 := by simpa [rightB] using h1
            by_cases h2 : has q op.src < op.n
            · simp [h1, h1', h2]
            · by_cases h3 : op.src = op.dst
              · simp [h1, h1', h3]; rw [h3] at h2; omega
              · by_cases h4 : rightB (has q op.dst + op.n) = true
                · simp [h1, h2, h1', h3, h4]; omega
                · simp [h1, h2, h1', h3, h4]; omega
          · simp [h1]
        obtain ⟨v, hv, hcase⟩ := key
        have HV := Hd.mk hv
        clear hv
        have rs := hB.right op.src
        have rd := hB.right op.dst
        rcases hcase with ⟨h1, rfl⟩ | ⟨h1, h2, h3, rfl⟩ | ⟨h1, h2, h3, h4, h5, rfl⟩ | ⟨h1, h2, h3, h4, rfl⟩ | ⟨h1, h2, h3, h4, h5, rfl⟩
        all_goals
          go_wp2_with (first
            | (go_at_call 10; refine (law6_has K L c1 d1 q _ _ HR.out (by omega)).mono ?_; rintro e w' ⟨rfl, rfl⟩)
            | (go_at_call 13; refine (law6_right _ _).mono ?_; rintro e w' ⟨rfl, rfl⟩))
          try go_quiet (first | (go_at_call 10; refine Calls.quiet_of_same ((law6_has K L c1 d1 q _ _ (by exact HR.out.drewN _) (by omega)).mono fun _ _ h => ⟨h.1, h.2.symm⟩)) | (go_at_call 13; refine Calls.quiet_of_same ((law6_right _ _).mono fun _ _ h => ⟨h.1, h.2.symm⟩)))
          try go_wp2_with fail
          refine (purse_Pay w.heap.size mo m op.src op.dst op.n ok1 ok2 _ (by first | exact HP.out | exact HP.out.drewN _)).mono ?_
          rintro e W3 ⟨he, mo', hP3, hC3, hmo3⟩
          rw [payE_eq hB, HV.out] at he
          subst he
          have hC4 : Ch (fun k => k = w.heap.size ∨ some k = mo) (wr.alloc (.cells #[.int .i64 op.kind, .int .i64 op.src, .int .i64 op.dst, .int .i64 op.n] 30)) W3 := ⟨hC3.os, hC3.tape, hC3.output, hC3.size, hC3.block⟩
          have hR3 := HR.out.ch HP.out hC4
          have hB3 : Below w.heap.size w W3 := hC4.below_of HB.out (fun k hk => by
            rcases hk with rfl | hk
            · exact Nat.le_refl _
            · exact hmo k hk.symm)
          have hO3 : W3.heap[wr.heap.size]? = some (.cells #[.int .i64 op.kind, .int .i64 op.src, .int .i64 op.dst, .int .i64 op.n] 30 (0, 0)) :=
            (hC4.block wr.heap.size (Array.getElem?_eq_some_iff.1 HO.out).1 (notPurse HP.out HO.out)).trans HO.out
          have hmo3' : ∀ r, mo' = some r → w.heap.size ≤ r := fun r hr => by
            rcases hmo3 with e | ⟨r', e, hle⟩
            · exact hmo r (by rw [← e]; exact hr)
            · rw [e] at hr; injection hr with hr; subst hr; exact Nat.le_trans HB.out.size hle
          have hB4 := hB.pay (n := op.n) ok1 ok2
          generalize wr.heap.size = ob at *
          have e1' : W3.cell? ⟨ob, 1, none⟩ = some (.int .i64 op.src) := by rw [cell_of_row W3 ob 1 _ _ _ hO3]; rfl
          have e2' : W3.cell? ⟨ob, 2, none⟩ = some (.int .i64 op.dst) := by rw [cell_of_row W3 ob 2 _ _ _ hO3]; rfl
          have e3' : W3.cell? ⟨ob, 3, none⟩ = some (.int .i64 op.n) := by rw [cell_of_row W3 ob 3 _ _ _ hO3]; rfl
          have HO3 := Hd.mk hO3
          have HC := Hd.mk hC4
          clear hc0 hc1 hc2 hc3 hC3 hC4 hO3
          go_wp2_with fail
        rotate_right 1
        · have HQ : Hd (payQ q op.src op.dst op.n = put (put q op.src (has q op.src - op.n)) op.dst (has q op.dst + op.n)) := ⟨by rw [payQ, if_pos ⟨HV.out, by simpa using h4⟩]⟩
          have HQL := Hd.mk (payQ_length q op.src op.dst op.n)
          have HL1 := Hd.mk (put_length q op.src (has q op.src - op.n))
          have HN1 := Hd.mk (nodup_put q hB.nodup op.src (has q op.src - op.n))
          have h6 : 0 ≤ has q op.dst + op.n ∧ has q op.dst + op.n ≤ 1125899906842624 := by simpa [rightB] using h5
          go_quiet ((go_at_call 10; refine Calls.quiet_of_same ((law6_has K L c1 d1 q _ _ (by exact hR3.drewN _) (by omega)).mono fun _ _ h => ⟨h.1, h.2.symm⟩)))
          have hR4 := hR3.drewN nq
          have hP4 := hP3.drewN nq
          have hB5 : Below w.heap.size w (W3.drewN nq) := below_drewN hB3 nq
          have HO4 : Hd ((W3.drewN nq).heap[ob]? = some (.cells #[.int .i64 op.kind, .int .i64 op.src, .int .i64 op.dst, .int .i64 op.n] 30 (0, 0))) := ⟨HO3.out⟩
          clear e1' e2' e3'
          generalize W3.drewN nq = W4 at *
          have e1' : W4.cell? ⟨ob, 1, none⟩ = some (.int .i64 op.src) := by rw [cell_of_row W4 ob 1 _ _ _ HO4.out]; rfl
          have e2' : W4.cell? ⟨ob, 2, none⟩ = some (.int .i64 op.dst) := by rw [cell_of_row W4 ob 2 _ _ _ HO4.out]; rfl
          have e3' : W4.cell? ⟨ob, 3, none⟩ = some (.int .i64 op.n) := by rw [cell_of_row W4 ob 3 _ _ _ HO4.out]; rfl
          go_wp2_with fail
          refine (law6_put K L c1 d1 q op.src (has q op.src - op.n) _ hR4 hB.nodup (by omega)).mono ?_
          rintro e W5 ⟨hb5, K', c', L', d', rfl, hR5⟩
          have hP5 := hP4.below hb5
          have hO5 := (hb5.block ob (Array.getElem?_eq_some_iff.1 HO4.out).1).trans HO4.out
          have hB6 := hB5.trans (hb5.mono hB5.size)
          have e1'' : W5.cell? ⟨ob, 1, none⟩ = some (.int .i64 op.src) := by rw [cell_of_row W5 ob 1 _ _ _ hO5]; rfl
          have e2'' : W5.cell? ⟨ob, 2, none⟩ = some (.int .i64 op.dst) := by rw [cell_of_row W5 ob 2 _ _ _ hO5]; rfl
          have e3'' : W5.cell? ⟨ob, 3, none⟩ = some (.int .i64 op.n) := by rw [cell_of_row W5 ob 3 _ _ _ hO5]; rfl
          have HO5 := Hd.mk hO5
          clear hO5 e1' e2' e3' hP4 hR4 hR3 hP3
          go_wp2_with fail
          refine (law6_put K' L' c' d' (put q op.src (has q op.src - op.n)) op.dst (has q op.dst + op.n) _ hR5 HN1.out (by have := HL1.out; omega)).mono ?_
          rintro e W6 ⟨hb6, K2, c2, L2, d2, rfl, hR6⟩
          rw [← HQ.out]
          rw [← HQ.out] at hR6
          have hP6 := hP5.below hb6
          have hO6 := (hb6.block ob (Array.getElem?_eq_some_iff.1 HO5.out).1).trans HO5.out
          have hB7 := hB6.trans (hb6.mono hB6.size)
          have e1' : W6.cell? ⟨ob, 1, none⟩ = some (.int .i64 op.src) := by rw [cell_of_row W6 ob 1 _ _ _ hO6]; rfl
          have e2' : W6.cell? ⟨ob, 2, none⟩ = some (.int .i64 op.dst) := by rw [cell_of_row W6 ob 2 _ _ _ hO6]; rfl
          have e3' : W6.cell? ⟨ob, 3, none⟩ = some (.int .i64 op.n) := by rw [cell_of_row W6 ob 3 _ _ _ hO6]; rfl
          clear hO6 e1'' e2'' e3'' hP5 hR5
          have hql : (payQ q op.src op.dst op.n).length ≤ 2 * n + 2 := by have := HQL.out; omega
          generalize payQ q op.src op.dst op.n = q2 at *
          go_wp2_with fail
          go_quiet (first | (go_at_call 10; refine Calls.quiet_of_same ((law6_has K2 L2 c2 d2 q2 _ _ (by exact hR6.drewN _) (by omega)).mono fun _ _ h => ⟨h.1, h.2.symm⟩)) | (go_at_call 15; refine Calls.quiet_of_same ((purse_Has _ mo' _ _ (by assumption) _ (by exact hP6.drewN _)).mono fun _ _ h => ⟨by rw [h.1, hB4.same], h.2.symm⟩)))
          go_wp2_with fail
          go_roundw
          case rel => exact ⟨n + 1, by omega, by omega, by go_num, ⟨_, q2, mo', K2, c2, L2, d2, rfl, rfl, hP6.drewN _, hR6.drewN _, hB4, by omega, hmo3'⟩, below_drewN hB7 _⟩
          case measure => simp [intOf]; omega
        all_goals
          have HQ : Hd (payQ q op.src op.dst op.n = q) := ⟨by rw [payQ, if_neg]; rw [HV.out]; simp_all⟩
          rw [HQ.out] at hB4
          go_quiet (first | (go_at_call 10; refine Calls.quiet_of_same ((law6_has K L c1 d1 q _ _ (by exact hR3.drewN _) (by omega)).mono fun _ _ h => ⟨h.1, h.2.symm⟩)) | (go_at_call 15; refine Calls.quiet_of_same ((purse_Has _ mo' _ _ (by assumption) _ (by exact hP3.drewN _)).mono fun _ _ h => ⟨by rw [h.1, hB4.same], h.2.symm⟩)))
          go_wp2_with fail
          go_roundw
          case rel => exact ⟨n + 1, by omega, by omega, by go_num, ⟨_, q, mo', K, c1, L, d1, rfl, rfl, hP3.drewN _, hR3.drewN _, hB4, by omega, hmo3'⟩, below_drewN hB3 _⟩
          case measure => simp [intOf]; omega
    · have hdec : ¬ (n < xs.length) ∨ (n < xs.length ∧ ¬ n < 60) := by omega
      clear hlt hP hR hbel
      rcases hdec with hd | ⟨hd, hd2⟩
      all_goals
        go_wp2_with fail
        have hPx := HPx.out
        have hRx := HRx.out
        have hbx := HBx.out
        clear HPx HRx HBx
        go_loopw [13] (fun i w2 => ∃ k j : Nat, k ≤ q.length ∧ i = .int .i64 k ∧ w2 = wr.drewN j) (fun i _ => q.length - (intOf i).toNat)
        case atStart => exact ⟨0, 0, Nat.zero_le _, rfl, rfl⟩
        case round =>
          obtain ⟨k, j, hk, rfl, rfl⟩ := hrel
          by_cases hlt : k < q.length
          · obtain ⟨b, o, b2, o2, rfl, rfl, hc1, hc2⟩ := hRx.at_ k hlt
            have hi := hB.ok q[k] (List.getElem_mem hlt)
            have hh : Hd (has m q[k].1 = q[k].2) := ⟨(hB.same _).trans (has_at hB.nodup k hlt)⟩
            have g1 : (k : Int) < (q.length : Int) := by omega
            have g2 : (0 : Int) ≤ (k : Int) := by omega
            obtain ⟨Wj, hWj⟩ : ∃ Wj, Wj = wr.drewN j := ⟨_, rfl⟩
            have hc1' : Wj.cell? ⟨b, o + k, none⟩ = some (.int .i64 q[k].1) := by rw [hWj]; exact hc1
            have hc2' : Wj.cell? ⟨b2, o2 + k, none⟩ = some (.int .i64 q[k].2) := by rw [hWj]; exact hc2
            have HPj : Hd (PurseAt Wj w.heap.size mo m) := ⟨by rw [hWj]; exact hPx.drewN _⟩
            rw [← hWj]
            have HWj := Hd.mk hWj
            clear hc1 hc2 hWj
            go_wp2_with fail
            go_quiet ((go_at_call 15; refine Calls.quiet_of_same ((purse_Has _ mo m _ hi _ (by exact HPj.out.drewN _)).mono fun _ _ h => ⟨by rw [h.1, hh.out], h.2.symm⟩)))
            go_wp2_with fail
            go_roundw
            case rel => exact ⟨k + 1, j + nq, by omega, by go_num, by rw [HWj.out]; exact World.drewN_drewN ..⟩
            case measure => simp [intOf]; omega
          · go_wp2_with (first
              | (go_at_call 11; refine (purse_Put_nil _ _ _).mono ?_; rintro e w' ⟨rfl, rfl⟩)
              | (go_at_call 14; refine (purse_Pay_nil _ _ _ _).mono ?_; rintro e w' ⟨rfl, rfl⟩)
              | (go_at_call 15; refine (purse_Has_nil _ _).mono ?_; rintro e w' ⟨rfl, rfl⟩)
              | (go_at_call 16; refine (law6_awake _).mono ?_; rintro e w9 ⟨rfl, hb9⟩))
            go_ret
            exact ⟨rfl, (below_drewN hbx _).trans (hb9.mono hbx.size)⟩
end Go.Proofs.Ytmpjofbmoagkiaa
