/- From a row's cell 'laid' to what strconv.Itoa's contract asks: the table of powers of ten is as its text lays it. -/
import Derived.Test.YtokphfhihhdfpaaDoorRows
import Derived.Test.YtokphfhihhdfpaaDoorExtB
import Derived.LaidSub
import Derived.Lib.LaidTab
import Derived.MakeChecks
import Derived.KernelRfl
namespace Go.Proofs.YtokphfhihhdfpaaDoor.Laid
theorem of_laid {l : List (String × DataW Unit)} {w : World} (hf : (l.filter fun x => x.1 == "internal/strconv.uint64pow10") = [("internal/strconv.uint64pow10", Rows.laid_internal_strconv_uint64pow10)]) (h : laidMetH Tryd.prog l w) : Ext.LaidW w := by
  have h1 := h.filter (fun x => x.1 == "internal/strconv.uint64pow10")
  rw [hf, MakeChecks.laidMetH_plain _ _ _ (by kernel_rfl)] at h1
  have e : (Rows.laid_internal_strconv_uint64pow10 : DataW Unit) = Lib.tabData .u64 Lib.pow10Tab := by kernel_rfl
  rw [e] at h1
  exact Lib.tabIs_of_head (g := 1) (t := 191) (e := 168) (n := 20) (by kernel_rfl) (by kernel_rfl) (by kernel_rfl) (by kernel_rfl) (by kernel_rfl) (by kernel_rfl) h1
theorem of_row_castsMatchSpec {w : World} (h : laidMetH Tryd.prog Rows.castsMatchSpecRow.laid w) : Ext.LaidW w := of_laid (by kernel_rfl) h
end Go.Proofs.YtokphfhihhdfpaaDoor.Laid
