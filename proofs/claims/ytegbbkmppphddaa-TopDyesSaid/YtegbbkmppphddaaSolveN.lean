/- The program's Solve once more: what it returns lies in new memory. -/
import Derived.Test.YtegbbkmppphddaaSolve
import Derived.Laws.EntriesVeiled
set_option linter.unusedVariables false
set_option linter.unusedSimpArgs false
namespace Go.Proofs.Ytegbbkmppphddaa
open Go.RowKit

/-- What 'solve' returns: a list in new memory. -/
def SolvePN (t : Task) (b : Nat) (w : World) (e : Ending) (w' : World) : Prop :=
  (w'.os = w.os ∧ w'.tape = w.tape ∧ w'.output = w.output ∧ w.heap.size ≤ w'.heap.size ∧ ∀ k, k < w.heap.size → k ≠ b → w'.heap[k]? = w.heap[k]?) ∧
  ((∃ r A c, solveB t t.cloth.threads.toNat [] = some r ∧ e = .returned (.tuple #[.slice A r.length c, .bool true]) ∧ IntsRd w' A c r ∧ ∀ a, A = some a → w.heap.size ≤ a.block) ∨
   (solveB t t.cloth.threads.toNat [] = none ∧ ∃ v, e = .returned (.tuple #[v, .bool false])))
theorem solveN_below {t : Task} {b : Nat} {w0 w w' : World} {e : Ending} (h : SolvePN t b w e w') (hb : Below w0.heap.size w0 w) (hlt : w0.heap.size ≤ b) : Below w0.heap.size w0 w' :=
  ⟨h.1.1.trans hb.os, h.1.2.1.trans hb.tape, h.1.2.2.1.trans hb.output, Nat.le_trans hb.size h.1.2.2.2.1, fun k hk => (h.1.2.2.2.2 k (Nat.lt_of_lt_of_le hk hb.size) (by omega)).trans (hb.block k hk)⟩
/-- A list in new memory. -/
def ListNew (B : Nat) (w : World) (v : Value) (l : List Int) : Prop := ListOut w v l ∧ ∀ a n c, v = .slice (some a) n c → B ≤ a.block
def ResNew (w : World) (r : List Int × Int) (e : Ending) (w' : World) : Prop :=
  ∃ v, e = .returned (.tuple #[v, .int .i64 r.2]) ∧ ListNew w.heap.size w' v r.1 ∧ Below w.heap.size w w'

set_option maxRecDepth 100000 in
set_option maxHeartbeats 4000000 in
theorem solve_new {t : Task} (hk : t.ok) {p : Prob} (hM : Matches p t) (hw : p.wf) {w : World} {b : Nat} (h : ProbAt w b p) :
    Calls Try.prog 22 #[.pointer (some ⟨b, 0, none⟩)] w (SolvePN t b w) := by
  obtain ⟨i0, hi0, hz0, hz1, hz2⟩ := info_parts info_int
  have h16 := hw.many
  have c1 := h.many
  have c2 := h.never
  have hbl := h.lt
  have hmn : p.many = t.cloth.threads.toNat := hM.many
  have hth := hk.threads
  have HMN := Lib.hid hmn
  clear hmn
  have HP := Lib.hid h
  clear h
  cases hn : p.never with
  | true =>
    rw [hn] at c2
    go_enter Try.func22, Try.ntmps22
    go_wp2_with (at_make; refine wpList_make_own (w.alloc (.cells #[.pointer (some ⟨b, 0, none⟩)] 69)) rfl (.const (.int .i64 0)) (.tmp 10) 47 rfl (w.heap.size + 1) 3 i0 (.int .i64 0) 1 Try.underlying47 hi0 hz0 hz1 .i64 .i64 p.many p.many rfl rfl rfl (by rw [hz2]; omega) (by simp [maxLen]; omega) (by simp) ?_; intro w1 hown hgrow; obtain ⟨d1, d2, d3, hbl1, hwl1, hs1, hB1, hE1⟩ := solve_facts hbl hown hgrow c1 c2)
    go_region
    go_wp2
    go_ret2
    have hBB : Below w.heap.size w ((w1.alloc (.cells #[.slice (some ⟨w.heap.size + 1, 0, none⟩) 0 p.many] 47)).alloc (.cells #[.func (.func 38) #[] #[.pointer (some ⟨w1.heap.size, 0, none⟩), .pointer (some ⟨w.heap.size, 0, none⟩), .pointer (some ⟨w1.heap.size + 1, 0, none⟩)]] 30)) :=
      hB1.out.trans ((below_box2 w1 _ _).mono (by have := hs1.out; omega))
    obtain ⟨u, hu, he⟩ := hM.never.1 hn
    exact ⟨⟨hBB.os, hBB.tape, hBB.output, hBB.size, fun k hk _ => hBB.block k hk⟩, .inr ⟨solveB_never hk hu he, _, rfl⟩⟩
  | false =>
    rw [hn] at c2
    go_enter Try.func22, Try.ntmps22
    go_wp2_with (at_make; refine wpList_make_own (w.alloc (.cells #[.pointer (some ⟨b, 0, none⟩)] 69)) rfl (.const (.int .i64 0)) (.tmp 10) 47 rfl (w.heap.size + 1) 3 i0 (.int .i64 0) 1 Try.underlying47 hi0 hz0 hz1 .i64 .i64 p.many p.many rfl rfl rfl (by rw [hz2]; omega) (by simp [maxLen]; omega) (by simp) ?_; intro w1 hown hgrow; obtain ⟨d1, d2, d3, hbl1, hwl1, hs1, hB1, hE1⟩ := solve_facts hbl hown hgrow c1 c2)
    have hs1' := hs1.out
    have hBB : Below w.heap.size w ((w1.alloc (.cells #[.slice (some ⟨w.heap.size + 1, 0, none⟩) 0 p.many] 47)).alloc (.cells #[.func (.func 38) #[] #[.pointer (some ⟨w1.heap.size, 0, none⟩), .pointer (some ⟨w.heap.size, 0, none⟩), .pointer (some ⟨w1.heap.size + 1, 0, none⟩)]] 30)) :=
      hB1.out.trans ((below_box2 w1 _ _).mono (by omega))
    have hA : Apart w1.heap.size (w.heap.size + 1) w.heap.size (w1.heap.size + 1) b := by constructor <;> omega
    have hAt : SearchAt ((w1.alloc (.cells #[.slice (some ⟨w.heap.size + 1, 0, none⟩) 0 p.many] 47)).alloc (.cells #[.func (.func 38) #[] #[.pointer (some ⟨w1.heap.size, 0, none⟩), .pointer (some ⟨w.heap.size, 0, none⟩), .pointer (some ⟨w1.heap.size + 1, 0, none⟩)]] 30))
        w1.heap.size (w.heap.size + 1) w.heap.size (w1.heap.size + 1) b [] p := by
      refine ⟨by simp, by simp, ?_, ((below_box2 w1 _ _).cell (p := ⟨w.heap.size, 0, none⟩) hwl1).trans d3, by simp, HP.out.of_block (hBB.block b hbl)⟩
      have := (hown.alloc (.cells #[.slice (some ⟨w.heap.size + 1, 0, none⟩) 0 p.many] 47)).alloc (.cells #[.func (.func 38) #[] #[.pointer (some ⟨w1.heap.size, 0, none⟩), .pointer (some ⟨w.heap.size, 0, none⟩), .pointer (some ⟨w1.heap.size + 1, 0, none⟩)]] 30)
      simpa [ints] using this
    have hO : w1.heap.size < ((w1.alloc (.cells #[.slice (some ⟨w.heap.size + 1, 0, none⟩) 0 p.many] 47)).alloc (.cells #[.func (.func 38) #[] #[.pointer (some ⟨w1.heap.size, 0, none⟩), .pointer (some ⟨w.heap.size, 0, none⟩), .pointer (some ⟨w1.heap.size + 1, 0, none⟩)]] 30)).heap.size := by simp; omega
    refine (search_any hk hM hn hA p.many _ [] p (state_nil hw) (poss_nil hk) (fun _ hx => by cases hx) (by simp) hAt).mono ?_
    clear hAt d1 d2 d3 hown hgrow c1 c2
    generalize ((w1.alloc (.cells #[.slice (some ⟨w.heap.size + 1, 0, none⟩) 0 p.many] 47)).alloc (.cells #[.func (.func 38) #[] #[.pointer (some ⟨w1.heap.size, 0, none⟩), .pointer (some ⟨w.heap.size, 0, none⟩), .pointer (some ⟨w1.heap.size + 1, 0, none⟩)]] 30)) = w2 at *
    rintro e w3 ⟨hK, (⟨r, p', rfl, hr, hAt, hm⟩ | ⟨rfl, hr, hAt⟩)⟩
    · obtain ⟨ex, rfl, hexl, hexc, -⟩ := solveB_some _ _ _ hr
      try rw [List.nil_append] at hAt hr
      have o3 := hAt.out
      have p3 := hAt.pb
      have m3 := hAt.prob.many
      rw [hm] at o3 m3
      try simp only [List.nil_append] at o3
      rw [hexl] at o3
      have HAT := Lib.hid hAt
      clear hAt
      go_wp2
      go_region
      go_wp2
      go_ret2
      refine ⟨⟨hK.os.trans hBB.os, hK.tape.trans hBB.tape, hK.output.trans hBB.output, Nat.le_trans hBB.size hK.size, fun k hk1 hk2 => ?_⟩, .inl ⟨r, some ⟨w.heap.size + 1, 0, none⟩, p.many, HMN.out ▸ hr, by rw [hexl]; rfl, ?_, fun a e => by cases e; show w.heap.size ≤ w.heap.size + 1; omega⟩⟩
      · exact (hK.block k (by have := hBB.size; omega) (by omega) (by omega) hk2).trans (hBB.block k hk1)
      · have hrow := HAT.out.row
        rw [hm] at hrow
        exact (IntsRd.of_owns hrow (fun x hx => by have := hexc x hx; unfold I64; omega)).below ((Below.refl _ w3).drew)
    · have o3 := hAt.out
      have p3 := hAt.pb
      have m3 := hAt.prob.many
      have HAT := Lib.hid hAt
      clear hAt
      go_wp2
      go_region
      go_wp2
      go_ret2
      refine ⟨⟨hK.os.trans hBB.os, hK.tape.trans hBB.tape, hK.output.trans hBB.output, Nat.le_trans hBB.size hK.size, fun k hk1 hk2 => ?_⟩, .inr ⟨HMN.out ▸ hr, _, rfl⟩⟩
      exact (hK.block k (by have := hBB.size; omega) (by omega) (by omega) hk2).trans (hBB.block k hk1)

set_option maxHeartbeats 1000000 in
theorem dysolve_new {w : World} {cA : Option Addr} {cc : Nat} {pA : Option Addr} {pc : Nat} {wA : Option Addr} {wc : Nat} {uA : Option Addr} {uc : Nat} {t : Task} (h : TaskRd w cA cc pA pc wA wc uA uc t) :
    Calls Try.prog 7 #[taskVal cA cc pA pc wA wc uA uc t] w (ResNew w (solveR t)) := by
  have hT1 := h.below (below_box (.cells #[.int .i64 t.cloth.threads, .slice cA t.cloth.crosses.length cc, .slice pA t.cloth.pins.length pc, .slice wA t.wishes.length wc, .slice uA t.unlike.length uc,
      .int .i64 t.s0, .int .i64 t.s1, .int .i64 t.s2, .int .i64 t.s3, .int .i64 t.s4, .int .i64 t.s5] 41))
  by_cases h0 : taskB t = 0
  · have hk := taskB_ok h0
    have hR : solveR t = resOf (solveB t t.cloth.threads.toNat []) := by
      unfold solveR; rw [if_neg (by simp [h0])]
    have HR := Lib.hid hR
    have H0 := Lib.hid h0
    clear h0 hR
    go_enter Try.func7, Try.ntmps7
    go_wp2_with fail
    refine (dycheck_any hT1).mono ?_
    rintro e w1 ⟨rfl, hb1⟩
    rw [H0.out]
    simp only [World.size_alloc] at hb1
    obtain ⟨hcell, _⟩ := bcell hb1
    have hT2 := hT1.below' (by simp) hb1
    go_wp2_with fail
    have eg := enters_of (P := Try.prog) Try.func21 (by kernel_rfl) rfl
    refine (made_any hT2 hk 21 #[] (fun _ => true) eg (fun w' i _ _ => solve1_any i)).mono ?_
    rintro e w2 ⟨b, hlt, rfl, hP, hb2⟩
    have hM := made_matches hk (fun _ => true)
    rw [pickT_all] at hM
    go_wp2_with fail
    refine (solve_new hk hM (made_wf hk _) hP).mono ?_
    intro e w3 hS
    have hB : Below w.heap.size w w3 := solveN_below hS (((below_box _).trans (hb1.mono (by omega))).trans (hb2.mono (by have := hb1.size; simp at this; omega))) (by have := hb1.size; simp at this; omega)
    clear hP hM hcell
    rcases hS.2 with ⟨r, A, c, hq, rfl, hI, hnew⟩ | ⟨hq, v, rfl⟩
    · have HQ := Lib.hid hq
      clear hq hS
      go_wp2_with fail
      go_ret2
      refine ⟨.slice A r.length c, ?_, ?_, hB⟩
      · rw [HR.out, HQ.out]; rfl
      · rw [HR.out, HQ.out]; exact ⟨⟨A, c, rfl, hI⟩, fun a n c e => by cases e; exact Nat.le_trans (Nat.le_trans (by simp) (Nat.le_trans hb1.size hb2.size)) (hnew a rfl)⟩
    · have HQ := Lib.hid hq
      clear hq hS
      go_wp2_with fail
      go_ret2
      refine ⟨.slice none 0 0, ?_, ?_, hB⟩
      · rw [HR.out, HQ.out]; rfl
      · rw [HR.out, HQ.out]; exact ⟨ListOut.nil_ _, fun a n c e => by cases e⟩
  · have HR := Lib.hid (show solveR t = ([], taskB t) by unfold solveR; rw [if_pos h0])
    have hne : (taskB t != 0) = true := by simp [h0]
    clear h0
    go_enter Try.func7, Try.ntmps7
    go_wp2_with fail
    refine (dycheck_any hT1).mono ?_
    rintro e w1 ⟨rfl, hb1⟩
    simp only [World.size_alloc] at hb1
    go_wp2_with fail
    go_ret2
    refine ⟨.slice none 0 0, ?_, ?_, (below_box _).trans (hb1.mono (by omega))⟩
    · rw [HR.out]; rfl
    · rw [HR.out]; exact ⟨ListOut.nil_ _, fun a n c e => by cases e⟩
end Go.Proofs.Ytegbbkmppphddaa
