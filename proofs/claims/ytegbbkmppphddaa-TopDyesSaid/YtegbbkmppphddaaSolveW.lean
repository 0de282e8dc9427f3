/- The program's 'solve'. -/
import Derived.Test.YtegbbkmppphddaaSearch2
import Derived.Laws.EntriesVeiled
import Derived.Test.YtegbbkmppphddaaDyCheckAny
set_option linter.unusedVariables false
set_option linter.unusedSimpArgs false
namespace Go.Proofs.Ytegbbkmppphddaa
open Go.RowKit

theorem search_any {t : Task} (hk : t.ok) {p0 : Prob} (hM : Matches p0 t) (hnev : p0.never = false) {O R PB FB b : Nat} (hA : Apart O R PB FB b) : ∀ (m : Nat) (w : World) (l : List Int) (p : Prob),
    State p0 l p → Poss t l → Cols l → l.length + m = p.many → SearchAt w O R PB FB b l p →
      Calls Try.prog 38 #[.pointer (some ⟨O, 0, none⟩), .pointer (some ⟨PB, 0, none⟩), .pointer (some ⟨FB, 0, none⟩)] w (SPost t O R PB FB b l p m w)
  | 0, w, l, p, hS, hP, hC, hl, h => search_end hk hP hC h (by omega) hS.wf.many
  | m + 1, w, l, p, hS, hP, hC, hl, h => by
    cases hE : enoughB p l.length with
    | true => exact search_step hk hM hnev hA (fun w l p => search_any hk hM hnev hA m w l p) hS hP hC hl h hE
    | false =>
      have := search_no hk hM hS hC h (by omega) hE
      rwa [show p.many - l.length = m + 1 by omega] at this

/-- What 'solve' returns. -/
def SolveP (t : Task) (b : Nat) (w : World) (e : Ending) (w' : World) : Prop :=
  (w'.os = w.os ∧ w'.tape = w.tape ∧ w'.output = w.output ∧ w.heap.size ≤ w'.heap.size ∧ ∀ k, k < w.heap.size → k ≠ b → w'.heap[k]? = w.heap[k]?) ∧
  ((∃ r A c, solveB t t.cloth.threads.toNat [] = some r ∧ e = .returned (.tuple #[.slice A r.length c, .bool true]) ∧ IntsRd w' A c r) ∨
   (solveB t t.cloth.threads.toNat [] = none ∧ ∃ v, e = .returned (.tuple #[v, .bool false])))

theorem poss_nil {t : Task} (hk : t.ok) : Poss t [] := ⟨fun c hc => by have := hk.supply c hc; simpa [countC] using this.1, fun w _ h => by simp at h, fun u _ h => by simp at h⟩

theorem solve_facts {w w1 : World} {b many : Nat} {v1 v2 : Value} (hbl : b < w.heap.size)
    (hown : w1.ownsRow (w.heap.size + 1) 3 1 (.slice (some ⟨(w.alloc (.cells #[.pointer (some ⟨b, 0, none⟩)] 69)).heap.size, 0, none⟩) 0 many) 0 [])
    (hgrow : (w.alloc (.cells #[.pointer (some ⟨b, 0, none⟩)] 69)).grownBy w1 none) (c1 : w.cell? ⟨b, 38, none⟩ = some v1) (c2 : w.cell? ⟨b, 39, none⟩ = some v2) :
    w1.cell? ⟨b, 38, none⟩ = some v1 ∧ w1.cell? ⟨b, 39, none⟩ = some v2 ∧ w1.cell? ⟨w.heap.size, 0, none⟩ = some (.pointer (some ⟨b, 0, none⟩)) ∧ b < w1.heap.size ∧ w.heap.size < w1.heap.size ∧ Hid (w.heap.size + 2 ≤ w1.heap.size) ∧ Hid (Below w.heap.size w w1) ∧ Hid (w1.heap[b]? = w.heap[b]?) := by
  have hX1 : ∀ k, k < w.heap.size + 1 → w1.heap[k]? = (w.alloc (.cells #[.pointer (some ⟨b, 0, none⟩)] 69)).heap[k]? := fun k hk => hgrow.block k (by simp; omega) (by simp)
  have hs1 : w.heap.size + 2 ≤ w1.heap.size := by
    have := (hown.lt (w.heap.size + 1) (by simp [Value.ownBlock])).2
    omega
  have eb1 := (hX1 b (by omega)).trans (Below.heap_alloc w _ b hbl)
  refine ⟨(World.cell?_of_block (a := ⟨b, 38, none⟩) eb1).trans c1, (World.cell?_of_block (a := ⟨b, 39, none⟩) eb1).trans c2, ?_, by omega, by omega, hs1, (below_box _).grown hgrow (by simp) (fun k hk => by cases hk), eb1⟩
  exact (World.cell?_of_block (w := w.alloc (.cells #[.pointer (some ⟨b, 0, none⟩)] 69)) (a := ⟨w.heap.size, 0, none⟩) (hX1 w.heap.size (by omega))).trans (by simp)

set_option maxRecDepth 100000 in
set_option maxHeartbeats 4000000 in
theorem solve_any {t : Task} (hk : t.ok) {p : Prob} (hM : Matches p t) (hw : p.wf) {w : World} {b : Nat} (h : ProbAt w b p) :
    Calls Try.prog 22 #[.pointer (some ⟨b, 0, none⟩)] w (SolveP t b w) := by
  obtain ⟨i0, hi0, hz0, hz1, hz2⟩ := info_parts info_int
  have h16 := hw.many
  have c1 := h.many
  have c2 := h.never
  have hbl := h.lt
  have hmn : p.many = t.cloth.threads.toNat := hM.many
  have hth := hk.threads
  have HMN := Lib.hid hmn
  clear hmn
  have HP := Lib.hid h
  clear h
  cases hn : p.never with
  | true =>
    rw [hn] at c2
    go_enter Try.func22, Try.ntmps22
    go_wp2_with (at_make; refine wpList_make_own (w.alloc (.cells #[.pointer (some ⟨b, 0, none⟩)] 69)) rfl (.const (.int .i64 0)) (.tmp 10) 47 rfl (w.heap.size + 1) 3 i0 (.int .i64 0) 1 Try.underlying47 hi0 hz0 hz1 .i64 .i64 p.many p.many rfl rfl rfl (by rw [hz2]; omega) (by simp [maxLen]; omega) (by simp) ?_; intro w1 hown hgrow; obtain ⟨d1, d2, d3, hbl1, hwl1, hs1, hB1, hE1⟩ := solve_facts hbl hown hgrow c1 c2)
    go_region
    go_wp2
    go_ret2
    have hBB : Below w.heap.size w ((w1.alloc (.cells #[.slice (some ⟨w.heap.size + 1, 0, none⟩) 0 p.many] 47)).alloc (.cells #[.func (.func 38) #[] #[.pointer (some ⟨w1.heap.size, 0, none⟩), .pointer (some ⟨w.heap.size, 0, none⟩), .pointer (some ⟨w1.heap.size + 1, 0, none⟩)]] 30)) :=
      hB1.out.trans ((below_box2 w1 _ _).mono (by have := hs1.out; omega))
    obtain ⟨u, hu, he⟩ := hM.never.1 hn
    exact ⟨⟨hBB.os, hBB.tape, hBB.output, hBB.size, fun k hk _ => hBB.block k hk⟩, .inr ⟨solveB_never hk hu he, _, rfl⟩⟩
  | false =>
    rw [hn] at c2
    go_enter Try.func22, Try.ntmps22
    go_wp2_with (at_make; refine wpList_make_own (w.alloc (.cells #[.pointer (some ⟨b, 0, none⟩)] 69)) rfl (.const (.int .i64 0)) (.tmp 10) 47 rfl (w.heap.size + 1) 3 i0 (.int .i64 0) 1 Try.underlying47 hi0 hz0 hz1 .i64 .i64 p.many p.many rfl rfl rfl (by rw [hz2]; omega) (by simp [maxLen]; omega) (by simp) ?_; intro w1 hown hgrow; obtain ⟨d1, d2, d3, hbl1, hwl1, hs1, hB1, hE1⟩ := solve_facts hbl hown hgrow c1 c2)
    have hs1' := hs1.out
    have hBB : Below w.heap.size w ((w1.alloc (.cells #[.slice (some ⟨w.heap.size + 1, 0, none⟩) 0 p.many] 47)).alloc (.cells #[.func (.func 38) #[] #[.pointer (some ⟨w1.heap.size, 0, none⟩), .pointer (some ⟨w.heap.size, 0, none⟩), .pointer (some ⟨w1.heap.size + 1, 0, none⟩)]] 30)) :=
      hB1.out.trans ((below_box2 w1 _ _).mono (by omega))
    have hA : Apart w1.heap.size (w.heap.size + 1) w.heap.size (w1.heap.size + 1) b := by constructor <;> omega
    have hAt : SearchAt ((w1.alloc (.cells #[.slice (some ⟨w.heap.size + 1, 0, none⟩) 0 p.many] 47)).alloc (.cells #[.func (.func 38) #[] #[.pointer (some ⟨w1.heap.size, 0, none⟩), .pointer (some ⟨w.heap.size, 0, none⟩), .pointer (some ⟨w1.heap.size + 1, 0, none⟩)]] 30))
        w1.heap.size (w.heap.size + 1) w.heap.size (w1.heap.size + 1) b [] p := by
      refine ⟨by simp, by simp, ?_, ((below_box2 w1 _ _).cell (p := ⟨w.heap.size, 0, none⟩) hwl1).trans d3, by simp, HP.out.of_block (hBB.block b hbl)⟩
      have := (hown.alloc (.cells #[.slice (some ⟨w.heap.size + 1, 0, none⟩) 0 p.many] 47)).alloc (.cells #[.func (.func 38) #[] #[.pointer (some ⟨w1.heap.size, 0, none⟩), .pointer (some ⟨w.heap.size, 0, none⟩), .pointer (some ⟨w1.heap.size + 1, 0, none⟩)]] 30)
      simpa [ints] using this
    have hO : w1.heap.size < ((w1.alloc (.cells #[.slice (some ⟨w.heap.size + 1, 0, none⟩) 0 p.many] 47)).alloc (.cells #[.func (.func 38) #[] #[.pointer (some ⟨w1.heap.size, 0, none⟩), .pointer (some ⟨w.heap.size, 0, none⟩), .pointer (some ⟨w1.heap.size + 1, 0, none⟩)]] 30)).heap.size := by simp; omega
    refine (search_any hk hM hn hA p.many _ [] p (state_nil hw) (poss_nil hk) (fun _ hx => by cases hx) (by simp) hAt).mono ?_
    clear hAt d1 d2 d3 hown hgrow c1 c2
    generalize ((w1.alloc (.cells #[.slice (some ⟨w.heap.size + 1, 0, none⟩) 0 p.many] 47)).alloc (.cells #[.func (.func 38) #[] #[.pointer (some ⟨w1.heap.size, 0, none⟩), .pointer (some ⟨w.heap.size, 0, none⟩), .pointer (some ⟨w1.heap.size + 1, 0, none⟩)]] 30)) = w2 at *
    rintro e w3 ⟨hK, (⟨r, p', rfl, hr, hAt, hm⟩ | ⟨rfl, hr, hAt⟩)⟩
    · obtain ⟨ex, rfl, hexl, hexc, -⟩ := solveB_some _ _ _ hr
      try rw [List.nil_append] at hAt hr
      have o3 := hAt.out
      have p3 := hAt.pb
      have m3 := hAt.prob.many
      rw [hm] at o3 m3
      try simp only [List.nil_append] at o3
      rw [hexl] at o3
      have HAT := Lib.hid hAt
      clear hAt
      go_wp2
      go_region
      go_wp2
      go_ret2
      refine ⟨⟨hK.os.trans hBB.os, hK.tape.trans hBB.tape, hK.output.trans hBB.output, Nat.le_trans hBB.size hK.size, fun k hk1 hk2 => ?_⟩, .inl ⟨r, some ⟨w.heap.size + 1, 0, none⟩, p.many, HMN.out ▸ hr, by rw [hexl]; rfl, ?_⟩⟩
      · exact (hK.block k (by have := hBB.size; omega) (by omega) (by omega) hk2).trans (hBB.block k hk1)
      · have hrow := HAT.out.row
        rw [hm] at hrow
        exact (IntsRd.of_owns hrow (fun x hx => by have := hexc x hx; unfold I64; omega)).below ((Below.refl _ w3).drew)
    · have o3 := hAt.out
      have p3 := hAt.pb
      have m3 := hAt.prob.many
      have HAT := Lib.hid hAt
      clear hAt
      go_wp2
      go_region
      go_wp2
      go_ret2
      refine ⟨⟨hK.os.trans hBB.os, hK.tape.trans hBB.tape, hK.output.trans hBB.output, Nat.le_trans hBB.size hK.size, fun k hk1 hk2 => ?_⟩, .inr ⟨HMN.out ▸ hr, _, rfl⟩⟩
      exact (hK.block k (by have := hBB.size; omega) (by omega) (by omega) hk2).trans (hBB.block k hk1)
end Go.Proofs.Ytegbbkmppphddaa
